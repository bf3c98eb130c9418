/- The engine, part 8: one operation, further. -/
import Derived.Test.YtccelbeahdcooaaE7
namespace Go.Proofs.Ytccelbeahdcooaa.Eng
open Go Go.RowKit
set_option linter.unusedSimpArgs false

section
variable {P:Program} {N:Nat→Prop} {w0:World} {η0:Env} {h0:Nat} {we:World} {R:Type}
variable {η:Env} {st:St} {a:Act} {w:World} {o:Oper} {next:Act→World→Prop} {Q:Exit→Act→World→Prop} {K:AV→St→Option R} {r:R} {tt:TT} {S:Tab}

theorem D1 {t:TypeId} {d:TypeDesc} (hT:TTok P tt) (h:C4 tt t=some d):P.underlying t=some d:=by
 simp only [C4] at h
 obtain ⟨x,h1,h2⟩:=Option.bind_eq_some_iff.1 h
 obtain rfl:=Option.some.inj h2
 exact (hT _ _ h1).und

theorem C1 {t E:TypeId} {d:TD} (hT:TTok P tt) (h:B7 tt t=some (E,d)):P.underlying t=some (.slice E)∧TDok P E d:=by
 simp only [B7] at h
 obtain ⟨x,h1,h⟩:=Option.bind_eq_some_iff.1 h
 have td:=hT _ _ h1
 cases hx:x.desc<;>rw [hx] at h<;>simp only at h<;>try cases h
 obtain ⟨y,h2,h⟩:=Option.map_eq_some_iff.1 h
 simp only [Prod.mk.injEq] at h
 obtain ⟨rfl,rfl⟩:=h
 exact ⟨by rw [td.und,hx],hT _ _ h2⟩

theorem A1V {H:List AObj} (I:Inv N w0 η H w) {id:Nat} {E:TypeId} {fr:Bool} {e:Ty} {l:List e.den} (ho:H[id]? = some (.rows E fr e l)) :
  η.ln id=l.length∧((F8 (η.hv id)∧l=[])∨∃ cap,η.hv id=.slice (some ⟨η.ι id,0,none⟩) l.length cap∧l.length≤cap):=by
 obtain ⟨h1,h2⟩:=I.obj id _ ho
 refine ⟨h1,h2.imp (fun h=>h) ?_⟩
 rintro ⟨c,cap,g1,g2,g3,_⟩
 exact ⟨cap,g1,g3⟩

theorem A3t {H:List AObj} (I:Inv N w0 η H w) {id:Nat} {E:TypeId} {Es:List TypeId} {e:Ty} {l:List e.den} (ho:H[id]? = some (.deep E Es e l)) :
  η.ln id=l.length∧((F8 (η.hv id)∧l=[])∨∃ cap,η.hv id=.slice (some ⟨η.ι id,0,none⟩) l.length cap∧l.length≤cap):=by
 obtain ⟨h1,h2⟩:=I.obj id _ ho
 refine ⟨h1,h2.imp (fun h=>h) ?_⟩
 rintro ⟨c,cap,g1,g2,g3,_⟩
 exact ⟨cap,g1,g3⟩
def A3s (H:List AObj) (id:Nat) (e:Ty) (l:List e.den):Prop:=(∃ E fr,H[id]? = some (.rows E fr e l))∨∃ E Es,H[id]? = some (.deep E Es e l)
theorem A47 {H:List AObj} (I:Inv N w0 η H w) {id:Nat} {e:Ty} {l:List e.den} (ho:A3s H id e l) :
  η.ln id=l.length∧((F8 (η.hv id)∧l=[])∨∃ cap,η.hv id=.slice (some ⟨η.ι id,0,none⟩) l.length cap∧l.length≤cap):=by
 rcases ho with ⟨E,fr,h⟩ | ⟨E,Es,h⟩
 ·exact A1V I h
 ·exact A3t I h

theorem Own.len {id row:Nat}:∀ (t:Ty) (Es:List TypeId) (off:Nat) (x:t.den) (c:Nat→Option Value),Own η w id row t Es off x c →
  ∀ j fr e' l', (t.toAVs false x)[j]? = some (.t fr (.sl e') l')→∃ A cap,η.nv id row (off+j)=.slice A l'.length cap∧l'.length≤cap:=by
 intro t
 induction t with
 | int k=>intro Es off x c h j fr e' l' hj;cases j<;>simp [Ty.toAVs] at hj
 | bool=>intro Es off x c h j fr e' l' hj;cases j<;>simp [Ty.toAVs] at hj
 | str=>intro Es off x c h j fr e' l' hj;cases j<;>simp [Ty.toAVs] at hj
 | sl e _ =>
  intro Es off x c h j fr e' l' hj
  cases j with
  | zero =>
   simp only [Ty.toAVs,List.getElem?_cons_zero,Option.some.injEq,AV.t.injEq,Ty.sl.injEq] at hj
   obtain ⟨rfl,rfl,hj⟩:=hj
   obtain rfl:=eq_of_heq hj
   rcases h.2 with ⟨⟨A,h1⟩,rfl⟩ | ⟨_,b,d,cap,q1,_,_,q4,_⟩
   ·exact ⟨A,0,h1,Nat.le_refl _⟩
   ·exact ⟨_,cap,q1,q4⟩
  | succ j=>simp [Ty.toAVs] at hj
 | pair a b iha ihb =>
  intro Es off x c h j fr e' l' hj
  simp only [Ty.toAVs] at hj
  by_cases hlt:j<(a.toAVs false x.1).length
  ·rw [List.getElem?_append_left hlt] at hj
   exact iha _ _ _ _ h.1 j fr e' l' hj
  ·rw [List.getElem?_append_right (by omega)] at hj
   have:=ihb _ _ _ _ h.2 _ fr e' l' hj
   rw [A0H] at hlt this
   rw [show off+a.cells+(j - a.cells)=off+j by omega] at this
   exact this

theorem A5F {o:Option AV} {fr:Bool} {e:Ty} {l:List e.den} (h:A44 o=.t fr (.sl e) l):∃ f,o=some (.t f (.sl e) l)∧fr=false:=by
 unfold A44 at h
 split at h
 ·rename_i f e' l'
  simp only [AV.t.injEq,Ty.sl.injEq] at h
  obtain ⟨rfl,rfl,h⟩:=h
  obtain rfl:=eq_of_heq h
  exact ⟨f,rfl,rfl⟩
 ·cases h

theorem A6g {H:List AObj} (I:Inv N w0 η H w) {x:AV} {v:Value} {n:Nat} (r:AVR η H.length w x v) (hl:x.len H=some n) :
  (∃ s fr,x=.t fr .str s∧v=.string s∧s.size=n)∨((∀ fr s,x ≠ .t fr .str s)∧∃ A c,v=.slice A n c∧n≤c):=by
 cases r with
 | @t fr ty y v h1 hlay =>
  cases ty with
  | str =>
   simp only [AV.len,Option.some.injEq] at hl
   simp only [Lay,if_true,Option.some.injEq] at hlay
   exact .inl ⟨y,fr,rfl,hlay,hl⟩
  | sl e =>
   simp only [AV.len,Option.some.injEq] at hl
   obtain ⟨A,cap,c1,c2,_⟩:=hlay
   simp only [if_true,Option.some.injEq] at c1
   subst hl
   exact .inr ⟨by simp,A,cap,c1,c2⟩
  | _=>simp [AV.len] at hl
 | raw v =>
  have:v=.slice none 0 0∧n=0:=by
   simp only [AV.len] at hl
   split at hl
   ·rename_i he;simp at he;exact ⟨he,by simpa using hl.symm⟩
   all_goals (first | (rename_i he;cases he;done) | cases hl)
  obtain ⟨rfl,rfl⟩:=this
  exact .inr ⟨by simp,_,_,rfl,Nat.le_refl _⟩
 | @all id sz hid =>
  simp only [AV.len] at hl
  split at hl
  ·rename_i E fr e l ho
   split at hl
   ·obtain ⟨_,h2⟩:=A1V I ho
    simp only [Option.some.injEq] at hl
    subst hl
    rcases h2 with ⟨⟨B,e1⟩,rfl⟩ | ⟨cap,e1,e2⟩
    ·exact .inr ⟨by simp,B,0,e1,Nat.le_refl _⟩
    ·exact .inr ⟨by simp,_,_,e1,e2⟩
   ·cases hl
  ·rename_i E Es e l ho
   split at hl
   ·obtain ⟨_,h2⟩:=A3t I ho
    simp only [Option.some.injEq] at hl
    subst hl
    rcases h2 with ⟨⟨B,e1⟩,rfl⟩ | ⟨cap,e1,e2⟩
    ·exact .inr ⟨by simp,B,0,e1,Nat.le_refl _⟩
    ·exact .inr ⟨by simp,_,_,e1,e2⟩
   ·cases hl
  ·cases hl
 | arr hid hn hlo hA =>
  simp only [AV.len,Option.some.injEq] at hl
  subst hl
  exact .inr ⟨by simp,_,_,rfl,hn⟩
 | pre hid hv hn hc =>
  simp only [AV.len,Option.some.injEq] at hl
  subst hl
  exact .inr ⟨by simp,_,_,rfl,hc⟩
 | @nest id row sz off hid hr =>
  simp only [AV.len] at hl
  split at hl
  ·rename_i E Es e l ho
   split at hl
   ·split at hl
    ·rename_i fr e' y hy
     simp only [Option.some.injEq] at hl
     subst hl
     obtain ⟨f,hy,_⟩:=A5F hy
     obtain ⟨hln,R⟩:=I.obj id _ ho
     have hrow:row<l.length:=by rw [← hln];exact hr
     rcases R with ⟨_,rfl⟩ | ⟨c,cap,q1,q2,q3,q4,q5,q6⟩
     ·simp at hrow
     ·obtain ⟨A,cp,h1,h2⟩:=Own.len _ _ _ _ _ (q6 row _ (A0K e.dflt hrow)) off _ _ _ hy
      rw [Nat.zero_add] at h1
      exact .inr ⟨by simp,A,cp,h1,h2⟩
    ·cases hl
   ·cases hl
  ·cases hl
 | _=>simp [AV.len] at hl

theorem A5l {d:TypeDesc} {x:AV} (h:A2h d x=true) (hne:∀ fr s,x ≠ .t fr .str s):∃ E,d=.slice E:=by
 unfold A2h at h
 split at h
 ·exact absurd rfl (hne _ _)
 ·exact ⟨_,rfl⟩
 ·exact ⟨_,rfl⟩
 ·exact ⟨_,rfl⟩
 ·exact ⟨_,rfl⟩
 ·exact ⟨_,rfl⟩
 ·exact ⟨_,rfl⟩
 ·cases h

theorem A6y {h:Nat} (n:Int):AVR η h w (.t true (.int .i64) n) (.int .i64 n):=.t rfl (by simp [Lay])

theorem A7t [DF] (hT:TTok P tt) (s:SR N w0 η0 h0 we η st a w) {c:Call} (ho:o.op=.call c) (hcal:c.callee=.builtin .len) {x:Operand} {t:TypeId} (hx:c.args.toList=[x]) (ht:c.argTypes.toList=[t])
  {d:TypeDesc} (hd:C4 tt t=some d) {n:Nat} (hl:(st.ev x).len st.heap=some n) (hok:A2h d (st.ev x)=true) (hk:K (.t true (.int .i64) (n:Int)) st=some r) (hp:Post N w0 η0 h0 we K r o a next):o.wp P a w next Q:=by
 have hu:=D1 hT hd
 have ea:c.args=#[x]:=by rw [← Array.toArray_toList (xs:=c.args),hx]
 have et:c.argTypes=#[t]:=by rw [← Array.toArray_toList (xs:=c.argTypes),ht]
 refine A9 (w':=w) ?_ (hp _ _ _ _ _ hk s (A6y _))
 rcases A6g s.inv (s.ev x) hl with ⟨b,fr,e1,e2,e3⟩ | ⟨hne,A,cap,e2,_⟩
 ·rw [e1] at hok
  cases d<;>simp [A2h] at hok
  simp [execOp,ho,resolve,hcal,ea,et,invoke,builtin,Builtin.len_,run_underlying hu,e2,goInt,e3]
 ·obtain ⟨E,rfl⟩:=A5l hok hne
  simp [execOp,ho,resolve,hcal,ea,et,invoke,builtin,Builtin.len_,run_underlying hu,e2,goInt]

theorem A5R {op:BinOp} {t:TypeId} {x y:Operand} {a b v:Value} (h:A6e op a b=some (true,v)):D4 P (do eqGuard op t x y a b;binOp op t a b)=some v:=by
 unfold A6e at h
 split at h
 ·simp only [Option.some.injEq,Prod.mk.injEq,decide_eq_true_eq] at h
  obtain ⟨h1,rfl⟩:=h
  have e:¬ ((_:Nat):Int) > IntKind.i64.max:=Int.not_lt.2 h1
  show D4 P (Op.stringOp .add _ _)=_
  simp only [Op.stringOp]
  rw [if_neg e];rfl
 ·split at h
  ·rename_i hk
   subst hk
   simp only [Option.some.injEq,Prod.mk.injEq,decide_eq_true_eq] at h
   obtain ⟨h1,rfl⟩:=h
   show D4 P (if _ ≠ _ then _ else Op.intDiv .quo _ _ _)=_
   rw [if_neg (by simp)]
   simp only [Op.intDiv]
   rw [if_neg h1];rfl
  ·cases h
 ·split at h
  ·rename_i hk
   subst hk
   simp only [Option.some.injEq,Prod.mk.injEq,decide_eq_true_eq] at h
   obtain ⟨h1,rfl⟩:=h
   show D4 P (if _ ≠ _ then _ else Op.intDiv .rem _ _ _)=_
   rw [if_neg (by simp)]
   simp only [Op.intDiv]
   rw [if_neg h1];rfl
  ·cases h
 ·rename_i k1 a1 k2 b1
  simp only [Option.some.injEq,Prod.mk.injEq,decide_eq_true_eq] at h
  obtain ⟨h1,rfl⟩:=h
  show D4 P (Op.shift .shl k1 a1 k2 b1)=_
  simp only [Op.shift]
  rw [if_neg (Int.not_lt.2 h1)];rfl
 ·rename_i k1 a1 k2 b1
  simp only [Option.some.injEq,Prod.mk.injEq,decide_eq_true_eq] at h
  obtain ⟨h1,rfl⟩:=h
  show D4 P (Op.shift .shr k1 a1 k2 b1)=_
  simp only [Op.shift]
  rw [if_neg (Int.not_lt.2 h1)];rfl
 ·cases h

theorem A5s [DF] (s:SR N w0 η0 h0 we η st a w) {op:BinOp} {t t':TypeId} {x y:Operand} (ho:o.op=.binOp op t x y t') {u v z:Value} (hx:(st.ev x).toValue=some u) (hy:(st.ev y).toValue=some v)
  (hz:D4 P (do eqGuard op t x y u v;binOp op t u v)=some z) (hk:K (.ofValue z) st=some r) (hp:Post N w0 η0 h0 we K r o a next):o.wp P a w next Q:=by
 have e1:=C7 (s.ev x) hx
 have e2:=C7 (s.ev y) hy
 have hrun:=A1d P _ z hz w
 refine A9 (w':=w) ?_ (hp _ _ _ _ _ hk s (D6 z))
 simp only [execOp,ho,e1,e2,Sem.run_bind,hrun,Result.andThen_ok,Sem.run_pure] at *

theorem A7i [DF] (s:SR N w0 η0 h0 we η st a w) {op:UnOp} {t:TypeId} {x:Operand} (ho:o.op=.unOp op t x) {u z:Value} (hx:(st.ev x).toValue=some u)
  (hz:D4 P (Op.unary op u)=some z) (hk:K (.ofValue z) st=some r) (hp:Post N w0 η0 h0 we K r o a next):o.wp P a w next Q:=by
 have e1:=C7 (s.ev x) hx
 have hrun:=A1d P _ z hz w
 refine A9 (w':=w) ?_ (hp _ _ _ _ _ hk s (D6 z))
 simp [execOp,ho,e1,hrun]

theorem A50 [DF] (s:SR N w0 η0 h0 we η st a w) {t t':TypeId} {x:Operand} (ho:o.op=.convert t t' x) {u z:Value} (hx:(st.ev x).toValue=some u)
  (hz:D4 P (convert t t' u)=some z) (hk:K (.ofValue z) st=some r) (hp:Post N w0 η0 h0 we K r o a next):o.wp P a w next Q:=by
 have e1:=C7 (s.ev x) hx
 have hrun:=A1d P _ z hz w
 refine A9 (w':=w) ?_ (hp _ _ _ _ _ hk s (D6 z))
 simp [execOp,ho,e1,hrun]

theorem A51 [DF] (s:SR N w0 η0 h0 we η st a w) {x:Operand} {i:Nat} (ho:o.op=.extract x i) {cs:List AV} (hx:st.ev x=.tup cs) {c:AV} (hc:cs[i]? = some c)
  (hk:K c st=some r) (hp:Post N w0 η0 h0 we K r o a next):o.wp P a w next Q:=by
 have hr:=s.ev x
 rw [hx] at hr
 generalize hu:a.eval x=u at hr
 cases hr with
 | tup hsz hcs =>
  have hlt:=(List.getElem?_eq_some_iff.1 hc).1
  have hcc:=hcs i c hc
  have hg:=F1 (show i<_ by rw [hsz];exact hlt)
  generalize Array.getD _ i undef=y at hcc hg
  refine A9 (w':=w) ?_ (hp _ _ _ _ _ hk s hcc)
  simp [execOp,ho,hu,Instr.extract,hg]

theorem A5v [DF] (s:SR N w0 η0 h0 we η st a w) {f:FuncId} {first captured:Array Operand} (ho:o.op=.makeFunc (.func f) first captured) (hf:first.isEmpty=true)
  (hk:K (.fn f (captured.toList.map st.ev)) st=some r) (hp:Post N w0 η0 h0 we K r o a next):o.wp P a w next Q:=by
 have e:first=#[]:=by simpa using hf
 refine A9 (w':=w) ?_ (hp _ _ _ _ _ hk s (.fn (vs:=captured.map a.eval) (by simp) (fun i c hc=>?_)))
 ·simp [execOp,ho,e,Instr.makeFunc]
 ·obtain ⟨y,hy,rfl⟩:=A3 hc
  have:(captured.map a.eval).getD i undef=a.eval y:=getD_some (by rw [Array.getElem?_map,← Array.getElem?_toList,hy];rfl)
  rw [this];exact s.ev y

theorem A0T [DF] (hT:TTok P tt) (s:SR N w0 η0 h0 we η st a w) {t:TypeId} {x i:Operand} (ho:o.op=.indexAddr t x i) {E:TypeId} {d:TD} (he:B7 tt t=some (E,d)) {n:Int} (hi:(st.ev i).asInt=some n) {v:AV}
  (hv:(∃ fr e l,st.ev x=.t fr (.sl e) l∧e.cells=d.size∧0≤n∧n<(l.length:Int)∧v=.rop fr e l n.toNat 0) ∨
   (∃ id sz e l,st.ev x=.all id sz∧A3s st.heap id e l∧e.cells=d.size∧e.cells=sz∧0≤n∧n<(l.length:Int)∧v=.ptr id n.toNat sz 0) ∨
   (∃ id sz lo k,st.ev x=.arr id sz lo k∧sz=d.size∧0≤n∧n<(k:Int)∧v=.ptr id (lo+n.toNat) sz 0) ∨
   (∃ id sz k E' fr e l,st.ev x=.pre id sz k∧st.heap[id]? = some (.rows E' fr e l)∧e.cells=d.size∧e.cells=sz∧0≤n∧n<(k:Int)∧n<(l.length:Int)∧v=.ptr id n.toNat sz 0))
  (hk:K v st=some r) (hp:Post N w0 η0 h0 we K r o a next):o.wp P a w next Q:=by
 obtain ⟨hu,td⟩:=C1 hT he
 obtain ⟨k,ei⟩:=C9 (s.ev i) hi
 have hx:=s.ev x
 have key:∃ ad m cap,a.eval x=.slice (some ad) m cap∧0≤n∧n<(m:Int)∧AVR η st.heap.length w v (.pointer (some (ad.add (n.toNat*d.size)))):=by
  rcases hv with ⟨fr,e,l,e1,e2,h1,h2,rfl⟩ | ⟨id,sz,e,l,e1,e2,e3,e4,h1,h2,rfl⟩ | ⟨id,sz,lo,m,e1,e2,h1,h2,rfl⟩ | ⟨id,sz,m,E', fr,e,l,e1,e2,e3,e4,h1,h2,h3,rfl⟩
  ·rw [e1] at hx
   generalize a.eval x=u at hx
   cases hx with
   | t hc hl =>
    obtain ⟨A,cap,c1,c2,c3⟩:=hl
    simp only [if_true,Option.some.injEq] at c1
    rcases c3 with rfl | ⟨ad,rfl,hz,c4⟩
    ·simp at h2;omega
    ·refine ⟨ad,l.length,cap,c1,h1,h2,?_⟩
     have:=@AVR.rop η st.heap.length w fr e l n.toNat 0 ad (by omega) hz c4
     rwa [Nat.add_zero,e2] at this
  ·rw [e1] at hx
   generalize a.eval x=u at hx
   cases hx with
   | all hid =>
    obtain ⟨g1,g2⟩:=A47 s.inv e2
    rcases g2 with ⟨_,rfl⟩ | ⟨cap,g2,g3⟩
    ·simp at h2;omega
    ·refine ⟨_,l.length,cap,g2,h1,h2,?_⟩
     rw [D7,Nat.zero_add,← e3,e4]
     exact .ptr hid (by omega)
  ·rw [e1] at hx
   generalize a.eval x=u at hx
   cases hx with
   | @arr id sz lo m cap A hid hn hlo hA =>
    obtain rfl:=hA (by omega)
    refine ⟨_,m,cap,rfl,h1,h2,?_⟩
    rw [D7,← e2,← Nat.add_mul]
    exact .ptr hid (by omega)
  ·rw [e1] at hx
   generalize a.eval x=u at hx
   cases hx with
   | @pre id sz _ m' cap A hid hv hn hc =>
    obtain ⟨g1,g2⟩:=A1V s.inv e2
    rcases g2 with ⟨_,rfl⟩ | ⟨cap', g2,g3⟩
    ·simp at h3;omega
    ·rw [g2] at hv
     cases hv
     refine ⟨_,m,cap,rfl,h1,h2,?_⟩
     rw [D7,Nat.zero_add,← e3,e4]
     exact .ptr hid (by omega)
 obtain ⟨ad,m,cap,ex,h1,h2,rv⟩:=key
 refine A9 (w':=w) ?_ (hp _ _ _ _ _ hk s rv)
 simp [execOp,ho,ex,ei,Instr.indexAt,asIntOf,run_underlying hu,C2 td,h1,h2]

theorem A60 [DF] (hT:TTok P tt) (s:SR N w0 η0 h0 we η st a w) {t:TypeId} {x i:Operand} (ho:o.op=.index t x i) (hd:C4 tt t=some .string) {fr:Bool} {b:ByteArray} (hx:st.ev x=.t fr .str b) {n:Int} (hi:(st.ev i).asInt=some n)
  (h1:0≤n) (h2:n<(b.size:Int)) (hk:K (.t true (.int .u8) (bt b n)) st=some r) (hp:Post N w0 η0 h0 we K r o a next):o.wp P a w next Q:=by
 have hu:=D1 hT hd
 obtain ⟨k,ei⟩:=C9 (s.ev i) hi
 have hr:=s.ev x
 rw [hx] at hr
 have ex:a.eval x=.string b:=C7 hr rfl
 have hlt:n.toNat<b.size:=by omega
 refine A9 (w':=w) ?_ (hp _ _ _ _ _ hk s (.t (v:=.int .u8 (bt b n)) rfl (by simp [Lay])))
 have hb:b[n.toNat]? = some (b[n.toNat]'hlt):=by simp [hlt]
 simp [execOp,ho,ex,ei,Instr.index,asIntOf,run_underlying hu,h1,hb,bt,hlt]

theorem A2l {t:TypeId} {d:TD} (td:TDok P t d) (h:d.size=1) (w:World):(sizeOf t).run P w=.ok 1 w:=by rw [C2 td,h]
theorem A5Z [DF] (hT:TTok P tt) (s:SR N w0 η0 h0 we η st a w) {t:TypeId} {x i:Operand} (ho:o.op=.indexAddr t x i) {n:Int} (hi:(st.ev i).asInt=some n) {b:Bool} {v:AV} (hv:A1k tt t st.heap (st.ev x) n=some (b,v))
  (hk:cond b (K v st) none=some r) (hp:Post N w0 η0 h0 we K r o a next):o.wp P a w next Q:=by
 obtain ⟨rfl,hk⟩:=A8 hk
 obtain ⟨k,ei⟩:=C9 (s.ev i) hi
 unfold A1k at hv
 split at hv
 ·rename_i id hx
  split at hv
  ·rename_i d E fr k' l hd hob
   split at hv
   ·rename_i k1 hak
    split at hv
    ·rename_i hkk
     simp only [Option.some.injEq,Prod.mk.injEq,decide_eq_true_eq] at hv
     obtain ⟨⟨b1,b2,b3⟩,rfl⟩:=hv
     have hr:=s.ev x
     rw [hx] at hr
     obtain ⟨hid,e1,hln,h0,_⟩:=A4L s.inv hr hob
     obtain ⟨m,t', e,u1,u2,u3,u4,u5,u6,u7,u8,u9,_⟩:=A2r hT (hT t d hd) hak
     have hsz:=A2l u3 u5
     have rv:AVR η st.heap.length w (.ptr id n.toNat 1 0) (.pointer (some ((⟨η.ι id,0,none⟩:Addr).add (n.toNat*1)))):=by
      have:=@AVR.ptr η st.heap.length w id n.toNat 1 0 hid (by omega)
      rw [D7,Nat.zero_add];exact this
     refine A9 (w':=w) ?_ (hp _ _ _ _ _ hk s rv)
     simp [execOp,ho,e1,ei,Instr.indexAt,asIntOf,run_underlying u1,hsz,Instr.sureAddr,b1,show n<(m:Int) by omega]
    ·cases hv
   ·cases hv
  ·cases hv
 ·cases hv
theorem A6A [DF] (hT:TTok P tt) (s:SR N w0 η0 h0 we η st a w) {t:TypeId} {x i:Operand} (ho:o.op=.index t x i) {n:Int} (hi:(st.ev i).asInt=some n) {b:Bool} {v:AV} (hv:A4J tt t (st.ev x) n=some (b,v))
  (hk:cond b (K v st) none=some r) (hp:Post N w0 η0 h0 we K r o a next):o.wp P a w next Q:=by
 obtain ⟨rfl,hk⟩:=A8 hk
 obtain ⟨k,ei⟩:=C9 (s.ev i) hi
 unfold A4J at hv
 split at hv
 ·rename_i cs d hx hd
  split at hv
  ·rename_i k' hak
   obtain ⟨l,hl,hv⟩:=Option.bind_eq_some_iff.1 hv
   split at hv
   ·rename_i hlen
    simp only [Option.some.injEq,Prod.mk.injEq,decide_eq_true_eq] at hv
    obtain ⟨⟨b1,b2⟩,rfl⟩:=hv
    have hr:=s.ev x
    rw [hx] at hr
    generalize hu:a.eval x=u at hr
    obtain ⟨m,t', e,u1,u2,u3,u4,u5,u6,u7,u8,u9,u10⟩:=A2r hT (hT t d hd) hak
    have hsz:=A2l u3 u5
    obtain ⟨g1,g2⟩:=A10 cs l hl
    cases hr with
    | @agg _ vs hs hc =>
     have hlt:n.toNat<l.length:=by omega
     obtain ⟨fr,h3⟩:=g2 n.toNat (l.getD n.toNat 0) (A0K 0 hlt)
     have h4:=A3n (hc _ _ h3)
     have h5:vs[n.toNat]? = some (.int k' (l.getD n.toNat 0)):=by rw [F1 (by omega),h4]
     refine A9 (w':=w) (x:=.int k' (l.getD n.toNat 0)) ?_ (hp _ _ _ _ _ hk s (A3G _))
     simp [execOp,ho,hu,ei,Instr.index,asIntOf,run_underlying u1,hsz,b1,show n<(m:Int) by omega,part,A15 u3,u10,h5]
   ·cases hv
  ·cases hv
 ·cases hv
end
end Go.Proofs.Ytccelbeahdcooaa.Eng
