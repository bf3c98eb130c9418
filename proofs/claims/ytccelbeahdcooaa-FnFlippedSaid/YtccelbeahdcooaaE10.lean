/- The engine, part 10: literals, made rows, cuts, bytes to text. -/
import Derived.Test.YtccelbeahdcooaaE9
namespace Go.Proofs.Ytccelbeahdcooaa.Eng
open Go Go.RowKit
set_option linter.unusedSimpArgs false
set_option linter.unusedVariables false

section
variable {P:Program} {N:Nat→Prop} {w0:World} {η0:Env} {h0:Nat} {we:World} {R:Type}
variable {η:Env} {st:St} {a:Act} {w:World} {o:Oper} {next:Act→World→Prop} {Q:Exit→Act→World→Prop} {K:AV→St→Option R} {r:R} {tt:TT} {S:Tab}

theorem places_of (hT:TTok P tt):∀ (fs:List Field),fs.all (fun (f:Field)=>(tt f.type).isSome)=true →
  ∃ pl,fs.mapM (fun (f:Field)=>(P.info? f.type).map fun i=>(f.offset,i.size))=some pl∧∀ (i:Nat) (f:Field) (d:TD),fs[i]? = some f→tt f.type=some d→pl[i]? = some (f.offset,d.size):=by
 intro fs
 induction fs with
 | nil=>intro _;exact ⟨[],rfl,fun i f d h=>by simp at h⟩
 | cons f fs ih =>
  intro h
  simp only [List.all_cons,Bool.and_eq_true] at h
  obtain ⟨pl,h1,h2⟩:=ih h.2
  obtain ⟨d,hd⟩:=Option.isSome_iff_exists.1 h.1
  obtain ⟨i,g1,g2,_⟩:=(hT _ _ hd).ex
  refine ⟨(f.offset,d.size)::pl,?_,fun k g d' hk hd'=>?_⟩
  ·simp [List.mapM_cons,g1,h1,g2]
  ·cases k with
   | zero =>
    obtain rfl:f=g:=by simpa using hk
    rw [hd] at hd';obtain rfl:=Option.some.inj hd';rfl
   | succ k=>exact h2 k g d' (by simpa using hk) hd'

theorem parts_rel [DF] (s:SR N w0 η0 h0 we η st a w) (parts:Array (Nat×Operand)):(parts.map fun (i,x)=>(i,a.eval x)).toList.length=(parts.toList.map fun p=>(p.1,st.ev p.2)).length ∧
  ∀ (k i:Nat) (c:AV),(parts.toList.map fun p=>(p.1,st.ev p.2))[k]? = some (i,c)→∃ u,(parts.map fun (i,x)=>(i,a.eval x)).toList[k]? = some (i,u)∧AVR η st.heap.length w c u:=by
 refine ⟨by simp,fun k i c hk=>?_⟩
 obtain ⟨p,hp,he⟩:=getElem?_map_some hk
 simp only [Prod.mk.injEq] at he
 obtain ⟨rfl,rfl⟩:=he
 exact ⟨a.eval p.2,by simp [hp],s.ev p.2⟩

theorem op_build [DF] (hT:TTok P tt) (s:SR N w0 η0 h0 we η st a w) {t:TypeId} {parts:Array (Nat×Operand)} (ho:o.op=.build t parts) {d:TD} (hd:tt t=some d) {fs:Array Field} (hfs:d.desc=.struct fs)
    (hall:fs.toList.all (fun (f:Field)=>(tt f.type).isSome)=true) {cs:List AV}
    (hf:fillAV (d.zero.map AV.ofValue) (fun i=>(fieldOf tt t i).map fun p=>(p.1,p.2.size)) (parts.toList.map fun p=>(p.1,st.ev p.2))=some cs)
    (hk:K (.agg cs) st=some r) (hp:Post N w0 η0 h0 we K r o a next):o.wp P a w next Q:=by
  have td:=hT t d hd
  obtain ⟨z,hz,hzl⟩:=run_zeroValue' td w
  obtain ⟨pl,hpl,hget⟩:=places_of hT fs.toList hall
  obtain ⟨hl,hrel⟩:=parts_rel s parts
  have hu:P.underlying t=some (.struct fs):=by rw [td.und,hfs]
  obtain ⟨vs', v1, v2, v3, v4⟩ := fill_rel s.inv.hvs (place := fun i => (fieldOf tt t i).map fun p => (p.1, p.2.size)) (fun i => pl[i]?) (fun i p hi => by
      obtain ⟨⟨off,df⟩,h1,h2⟩:=Option.map_eq_some_iff.1 hi
      subst h2
      simp only [fieldOf,hd,Option.bind_some,hfs] at h1
      obtain ⟨fd,g1,h1⟩:=Option.bind_eq_some_iff.1 h1
      obtain ⟨d', g2,h1⟩:=Option.bind_eq_some_iff.1 h1
      split at h1
      · cases h1
      · simp only [Option.some.injEq,Prod.mk.injEq] at h1
        obtain ⟨rfl,rfl⟩:=h1
        exact hget i fd d' (by rw [Array.getElem?_toList];exact g1) g2)
    _ _ (d.zero.map AV.ofValue) cs z.cells hf hl hrel (by rw [List.length_map,← hzl];simp) (fun j c hj=>by
      obtain ⟨v,hv,rfl⟩:=getElem?_map_some hj
      rw [getD_some (by rw [← Array.getElem?_toList,hzl];exact hv)]
      exact ofValue_rel v)
  have hb:(Instr.build t (parts.map fun (i,x)=>(i,a.eval x))).run P w=.ok (.agg vs') w:=by
    have hrp:=run_places (P:=P) w fs.toList pl hpl
    have h':Instr.fill (fun i=>pl.toArray[i]?) z.cells (parts.map fun (i,x)=>(i,a.eval x)).toList=some vs':=by simpa using v1
    simp only [Instr.build,Sem.run_bind,hz,Result.andThen_ok,run_underlying hu]
    simp [Array.mapM_eq_mapM_toList,hrp,h'] at *
    simp [h']
  exact wp_value (w':=w) (by simp [execOp,ho,hb]) (hp _ _ _ _ _ hk s (.agg v2 v4))

theorem op_buildArr [DF] (hT:TTok P tt) (s:SR N w0 η0 h0 we η st a w) {t:TypeId} {parts:Array (Nat×Operand)} (ho:o.op=.build t parts) {d:TD} (hd:tt t=some d) (hak:(arrK tt d).isSome=true) {cs:List AV}
  (hf:fillAV (d.zero.map AV.ofValue) (fun i=>some (i*1,1)) (parts.toList.map fun p=>(p.1,st.ev p.2))=some cs)
  (hk:K (.agg cs) st=some r) (hp:Post N w0 η0 h0 we K r o a next):o.wp P a w next Q:=by
 have td:=hT t d hd
 obtain ⟨k,hak⟩:=Option.isSome_iff_exists.1 hak
 obtain ⟨m,t', e,u1,u2,u3,u4,u5,u6,u7,u8,u9,u10⟩:=arrK_spec hT td hak
 have hsz:=run_sizeOf1 u3 u5
 obtain ⟨z,hz,hzl⟩:=run_zeroValue' td w
 obtain ⟨hl,hrel⟩:=parts_rel s parts
 obtain ⟨vs', v1,v2,v3,v4⟩:=fill_rel s.inv.hvs (place:=fun i=>some (i*1,1)) (fun i=>some (i*1,1)) (fun i p hi=>hi)
  _ _ (d.zero.map AV.ofValue) cs z.cells hf hl hrel (by rw [List.length_map,← hzl];simp) (fun j c hj=>by
   obtain ⟨v,hv,rfl⟩:=getElem?_map_some hj
   rw [getD_some (by rw [← Array.getElem?_toList,hzl];exact hv)]
   exact ofValue_rel v)
 have hb:(Instr.build t (parts.map fun (i,x)=>(i,a.eval x))).run P w=.ok (.agg vs') w:=by
  simp only [Instr.build,Sem.run_bind,hz,Result.andThen_ok,run_underlying u1,hsz]
  simp at v1
  simp [v1]
 exact wp_value (w':=w) (by simp [execOp,ho,hb]) (hp _ _ _ _ _ hk s (.agg v2 v4))

theorem readRows_rel (hz:∀ b,η.Z true b→η.Z false b) {h:Nat} (e:Ty):∀ (n:Nat) (cs:List AV) (l:List e.den) (f:Bool) (c:Nat→Option Value),readRows e n cs=some (l,f)→(∀ j a,cs[j]? = some a→∃ v,c j=some v∧AVR η h w a v) →
  l.length=n∧cs.length=n*e.cells∧∀ i x,l[i]? = some x→Lay (η.Z f) w e x (fun j=>c (i*e.cells+j)):=by
 intro n
 induction n with
 | zero =>
  intro cs l f c hr hc
  match cs,hr with
  | [],hr =>
   simp only [readRows,Option.some.injEq,Prod.mk.injEq] at hr
   obtain ⟨rfl,rfl⟩:=hr
   exact ⟨rfl,by simp,fun i x hx=>by simp at hx⟩
 | succ n ih =>
  intro cs l f c hr hc
  simp only [readRows] at hr
  split at hr
  ·rename_i x f1 r1 ho
   obtain ⟨⟨l1,f2⟩,h1,h2⟩:=Option.map_eq_some_iff.1 hr
   simp only [Prod.mk.injEq] at h2
   obtain ⟨rfl,rfl⟩:=h2
   obtain ⟨p1,p2,p3⟩:=ofAVs_rel hz e cs x f1 r1 c ho hc
   obtain ⟨q1,q2,q3⟩:=ih r1 l1 f2 (fun j=>c (e.cells+j)) h1 (fun j y hj=>hc (e.cells+j) y (by rw [p3,List.getElem?_drop] at hj;exact hj))
   refine ⟨by simp [q1],?_,fun i y hy=>?_⟩
   ·rw [p3,List.length_drop] at q2;rw [Nat.add_mul,Nat.one_mul];omega
   ·cases i with
    | zero =>
     obtain rfl:x=y:=by simpa using hy
     exact Lay.congr _ _ _ _ (fun j _=>by simp) (Lay.down hz (by simp;exact fun p _=>p) p1)
    | succ i =>
     have:=q3 i y (by simpa using hy)
     exact Lay.congr _ _ _ _ (fun j _=>by congr 1;rw [Nat.add_mul,Nat.one_mul];omega) (Lay.down hz (by simp) this)
  ·cases hr

theorem SR.newRows [DF] (s:SR N w0 η0 h0 we η st a w) {E:TypeId} {f:Bool} {e:Ty} {l:List e.den} {c:Array Value} {cap:Nat} (hcap:l.length≤cap) (hmax:cap≤maxLen) (hsz:c.size=cap*e.cells)
  (hl:∀ i x,l[i]? = some x→Lay (η.Z f) w e x (fun j=>c[i*e.cells+j]?)) :
  ∃ η', SR N w0 η0 h0 we η' (st.new (.rows E f e l)) a (w.alloc (.cells c E))∧AVR η' (st.new (.rows E f e l)).heap.length (w.alloc (.cells c E)) (.all st.heap.length e.cells) (.slice (some ⟨w.heap.size,0,none⟩) l.length cap) ∧
   Ext NoK η st.heap.length w η' (st.new (.rows E f e l)).heap.length (w.alloc (.cells c E)):=by
 have q:=s.new (.rows E f e l) (.cells c E) (.slice (some ⟨w.heap.size,0,none⟩) l.length cap) l.length ⟨_,_,_,rfl⟩ (fun x=>by
  refine ⟨by simp [Env.upd],?_⟩
  by_cases hc0:cap=0
  ·subst hc0
   have hl0:l.length=0:=by omega
   exact .inl ⟨⟨some ⟨w.heap.size,0,none⟩,by simp [Env.upd,hl0]⟩,List.eq_nil_of_length_eq_zero hl0⟩
  refine .inr ⟨c,cap,by simp [Env.upd],?_,hcap,⟨by omega,hmax⟩,hsz,fun i y hy=>lay_cell_mono x.z x.same (hl i y hy)⟩
  have:(η.upd st.heap.length w.heap.size (.slice (some ⟨w.heap.size,0,none⟩) l.length cap) l.length).ι st.heap.length=w.heap.size:=by simp [Env.upd]
  rw [this];exact heap_alloc_new w _)
 refine ⟨_,q.1,?_,by simpa [St.new] using q.2⟩
 have:=@AVR.all (η.upd st.heap.length w.heap.size (.slice (some ⟨w.heap.size,0,none⟩) l.length cap) l.length) (st.new (.rows E f e l)).heap.length (w.alloc (.cells c E)) st.heap.length e.cells (by simp [St.new])
 simpa [Env.upd] using this

theorem op_buildSlice [DF] (hT:TTok P tt) (s:SR N w0 η0 h0 we η st a w) {t:TypeId} {len:Nat} {parts:Array (Nat×Operand)} (ho:o.op=.buildSlice t len parts) {E:TypeId} {d:TD} (he:elemOf' tt t=some (E,d)) {e:Ty} (hsz:e.cells=d.size) (hlim:len*d.size≤16777216)
    {cs:List AV} (hf:fillAV (List.replicate (len*d.size) .junk) (fun i=>some (i*d.size,d.size)) (parts.toList.map fun p=>(p.1,st.ev p.2))=some cs) {l:List e.den} {f:Bool} (hr:readRows e len (St.freezeL cs st).1=some (l,f))
    (hk:K (.all (St.freezeL cs st).2.heap.length e.cells) ((St.freezeL cs st).2.new (.rows E f e l))=some r) (hp:Post N w0 η0 h0 we K r o a next):o.wp P a w next Q:=by
  obtain ⟨hu,td⟩:=elemOf_spec hT he
  obtain ⟨z,hz,hzl⟩:=run_zeroValue' td w
  obtain ⟨hl,hrel⟩:=parts_rel s parts
  have main : ∀ z0 : Array Value, z0.size = d.size ∨ len * d.size = 0 → ∃ vs', Instr.fill (fun i => some (i * d.size, d.size)) ((Array.range (len * d.size)).map (z0[· % z0.size]!)) (parts.map fun (i, x) => (i, a.eval x)).toList = some vs' ∧ vs'.size = cs.length ∧ cs.length = len * d.size ∧
      ∀ j c,cs[j]? = some c→AVR η st.heap.length w c (vs'.getD j undef):=by
    intro z0 _
    obtain ⟨vs', v1,v2,v3,v4⟩:=fill_rel s.inv.hvs (place:=fun i=>some (i*d.size,d.size)) (fun i=>some (i*d.size,d.size)) (fun i p hi=>hi) _ _ (List.replicate (len*d.size) .junk) cs ((Array.range (len*d.size)).map (z0[· % z0.size]!)) hf hl hrel (by simp) (fun j c hj=>by
      have:c=.junk:=by simp [List.getElem?_replicate] at hj;exact hj.2.symm
      rw [this];exact .junk _)
    exact ⟨vs', v1,v2,by rw [v3];simp,v4⟩
  obtain ⟨η1,s1,x1,l1,l2,r1⟩:=SR.freezeL cs st η s
  have fin : ∀ vs' : Array Value, vs'.size = cs.length → cs.length = len * d.size → (∀ j c, cs[j]? = some c → AVR η st.heap.length w c (vs'.getD j undef)) →
      (execOp a.eval o).run P w=.ok (.value (.slice (some ⟨w.heap.size,0,none⟩) len len)) (w.alloc (.cells vs' E))→o.wp P a w next Q:=by
    intro vs' h1 h2 h3 hrun
    have r2:=r1 (fun j=>vs'.getD j undef) h3
    obtain ⟨q1,q2,q3⟩:=readRows_rel s1.inv.zsub e len _ l f (fun j=>vs'[j]?) hr (fun j y hj=>⟨_,getElem?_getD (by have:=(List.getElem?_eq_some_iff.1 hj).1;omega),r2 j y hj⟩)
    have hlm:len≤maxLen:=by
      have:=Ty.cells_pos e
      have:len*1≤len*d.size:=Nat.mul_le_mul_left _ (by omega)
      simp only [maxLen];omega
    obtain ⟨η2,s2,ra,_⟩:=s1.newRows (E:=E) (f:=f) (e:=e) (l:=l) (c:=vs') (cap:=len) (by omega) hlm (by rw [h1,h2,hsz]) q3
    rw [q1] at ra
    exact wp_value hrun (hp _ _ _ _ _ hk s2 ra)
  by_cases h0:len*d.size=0
  · obtain ⟨vs', v1,v2,v3,v4⟩:=main #[] (.inr h0)
    refine fin vs' v2 v3 v4 ?_
    have hlim':¬ (len*d.size > 2 ^ 24):=by omega
    rw [h0] at v1
    simp at v1
    simp [execOp,ho,Instr.buildSlice,run_underlying hu,run_sizeOf' td,h0,v1,newRow]
  · have hzs:z.cells.size=d.size:=by rw [← Array.length_toList,hzl,td.len]
    obtain ⟨vs', v1,v2,v3,v4⟩:=main z.cells (.inl hzs)
    refine fin vs' v2 v3 v4 ?_
    have hlim':¬ (16777216<len*d.size):=by omega
    simp at v1
    simp [execOp,ho,Instr.buildSlice,run_underlying hu,run_sizeOf' td,h0,hlim', hz,v1,newRow]

theorem ext_owners {η':Env} {h:Nat} (e1:η'.ι=η.ι) (e2:η'.hv=η.hv) (e3:η'.ln=η.ln) (e4:η'.Z=η.Z) (e5:∀ i,i<h→η'.nv i=η.nv i):Ext NoK η h w η' h w :=
 ⟨fun i hi _=>⟨hi,by rw [e1],by rw [e2],by rw [e3]⟩,fun f b hb=>by rw [e4];exact hb,fun _ _ _=>rfl,fun b hb=>.inl (by rw [e4] at hb;exact hb),fun i hi _=>e5 i hi⟩

theorem SR.ownAll [DF] (s:SR N w0 η0 h0 we η st a w) (id row:Nat) {ts:List (Nat×Nat)} (hd:distinct (ts.map (·.1))=true) (ht:∀ k o,(k,o)∈ts→∃ E fr e l,st.heap[k]? = some (.rows E fr e l)) :
  ∃ η', SR N w0 η0 h0 we η' { st with heap:=deadAll ts st.heap } a w∧Ext NoK η st.heap.length w η' st.heap.length w∧η'.ι=η.ι∧η'.hv=η.hv∧η'.ln=η.ln∧η'.Z=η.Z∧η'.nv=η.nv∧(∀ b p,η.O b=some p→η'.O b=some p)∧∀ k o,(k,o)∈ts→¬ nulV (η.hv k)→η'.O (η.ι k)=some (id,row,o):=by
 obtain ⟨η', I1,e1,e2,e3,e4,e5,e6,e7⟩:=Inv.ownAll id row ts η st.heap s.inv hd ht
 have x:Ext NoK η st.heap.length w η' st.heap.length w:=ext_owners e1 e2 e3 e4 (fun i _=>by rw [e5])
 refine ⟨η', ⟨I1,?_,?_,s.base⟩,x,e1,e2,e3,e4,e5,e6,e7⟩
 ·simp only [deadAll_length];exact s.ext.trans x (fun _ _ hk=>⟨hk,rfl⟩)
 ·simp only [deadAll_length];exact s.sl.ext x

def Env.nvAt (η:Env) (id:Nat) (g:Nat→Nat→Value):Env:={ η with nv:=fun i=>if i=id then g else η.nv i }
theorem SR.nvNew [DF] (s:SR N w0 η0 h0 we η st a w) (g:Nat→Nat→Value) (hg:∀ r o,∃ A n c,g r o=.slice A n c):SR N w0 η0 h0 we (η.nvAt st.heap.length g) st a w∧Ext NoK η st.heap.length w (η.nvAt st.heap.length g) st.heap.length w:=by
 have hn:∀ i,i<st.heap.length→(η.nvAt st.heap.length g).nv i=η.nv i:=fun i hi=>by simp [Env.nvAt,Nat.ne_of_lt hi]
 have x:Ext NoK η st.heap.length w (η.nvAt st.heap.length g) st.heap.length w:=ext_owners rfl rfl rfl rfl hn
 have I:=s.inv
 have hmat:∀ (i:Nat) (o:AObj),o.mat (η.nvAt st.heap.length g) i↔o.mat η i:=fun i o=>by cases o<;>exact Iff.rfl
 refine ⟨⟨⟨I.nlt,I.fr,I.zlt,I.zsub,I.znew,I.hvs,fun i o ho=>?_,fun i o ho hm=>I.own i o ho ((hmat i o).1 hm),fun i j y z hy hz my mz he=>I.inj i j y z hy hz ((hmat i y).1 my) ((hmat j z).1 mz) he,fun b k hb=>?_,fun i r o=>?_⟩,s.ext.trans x (fun _ _ hk=>⟨hk,rfl⟩),s.sl.ext x,s.base⟩,x⟩
 ·exact (I.obj i o ho).mono x (List.getElem?_eq_some_iff.1 ho).1 (fun _=>rfl) ⟨trivial,fun b r q hb=>⟨hb,rfl⟩⟩
 ·obtain ⟨d1,d2,d3,d4⟩:=I.dep b k hb
  exact ⟨d1,d2,d3,fun i o ho hm=>d4 i o ho ((hmat i o).1 hm)⟩
 ·simp only [Env.nvAt]
  split
  ·exact hg r o
  ·exact I.nvs i r o

theorem SR.newDeep [DF] (s:SR N w0 η0 h0 we η st a w) {E:TypeId} {Es:List TypeId} {e:Ty} {l:List e.den} {c:Array Value} {cap:Nat} (hcap:l.length≤cap) (hmax:cap≤maxLen) (hsz:c.size=cap*e.cells) (g:Nat→Nat→Value) (hg:∀ r o,∃ A n c,g r o=.slice A n c)
  (hl:∀ η', η'.nv st.heap.length=g→η'.O=η.O→∀ i x,l[i]? = some x→Own η' (w.alloc (.cells c E)) st.heap.length i e Es 0 x (fun j=>c[i*e.cells+j]?)) :
  ∃ η', SR N w0 η0 h0 we η' (st.new (.deep E Es e l)) a (w.alloc (.cells c E))∧AVR η' (st.new (.deep E Es e l)).heap.length (w.alloc (.cells c E)) (.all st.heap.length e.cells) (.slice (some ⟨w.heap.size,0,none⟩) l.length cap):=by
 obtain ⟨s1,x1⟩:=s.nvNew g hg
 have q:=s1.new (.deep E Es e l) (.cells c E) (.slice (some ⟨w.heap.size,0,none⟩) l.length cap) l.length ⟨_,_,_,rfl⟩ (fun x=>by
  refine ⟨by simp [Env.upd],?_⟩
  by_cases hc0:cap=0
  ·subst hc0
   have hl0:l.length=0:=by omega
   exact .inl ⟨⟨some ⟨w.heap.size,0,none⟩,by simp [Env.upd,hl0]⟩,List.eq_nil_of_length_eq_zero hl0⟩
  refine .inr ⟨c,cap,by simp [Env.upd],?_,hcap,⟨by omega,hmax⟩,hsz,fun i y hy=>hl ((η.nvAt st.heap.length g).upd st.heap.length w.heap.size (.slice (some ⟨w.heap.size,0,none⟩) l.length cap) l.length) (by simp [Env.upd,Env.nvAt]) rfl i y hy⟩
  have:((η.nvAt st.heap.length g).upd st.heap.length w.heap.size (.slice (some ⟨w.heap.size,0,none⟩) l.length cap) l.length).ι st.heap.length=w.heap.size:=by simp [Env.upd]
  rw [this];exact heap_alloc_new w _)
 refine ⟨_,q.1,?_⟩
 have:=@AVR.all ((η.nvAt st.heap.length g).upd st.heap.length w.heap.size (.slice (some ⟨w.heap.size,0,none⟩) l.length cap) l.length) (st.new (.deep E Es e l)).heap.length (w.alloc (.cells c E)) st.heap.length e.cells (by simp [St.new])
 simpa [Env.upd] using this

theorem alloc_old {b:Nat} (o:Obj) (h:b<w.heap.size):(w.alloc o).heap[b]? = w.heap[b]?:=Below.heap_alloc w o b h

theorem op_buildOwn [DF] (hT:TTok P tt) (s:SR N w0 η0 h0 we η st a w) {t:TypeId} {len:Nat} {parts:Array (Nat×Operand)} (ho:o.op=.buildSlice t len parts) {E:TypeId} {d:TD} (he:elemOf' tt t=some (E,d)) {e:Ty}
    {st':St} (hb:buildOwn st E d e len (parts.toList.map fun p=>(p.1,st.ev p.2))=some st')
    (hk:K (.all st.heap.length e.cells) st'=some r) (hp:Post N w0 η0 h0 we K r o a next):o.wp P a w next Q:=by
  obtain ⟨hu,td⟩:=elemOf_spec hT he
  obtain ⟨z,hz,hzl⟩:=run_zeroValue' td w
  obtain ⟨hl,hrel⟩:=parts_rel s parts
  simp only [buildOwn] at hb
  split at hb
  · rename_i hc0
    obtain ⟨hsz,rfl,hlim⟩:=hc0
    split at hb
    · rename_i cs hf
      split at hb
      · rename_i x ts ns hput
        split at hb
        · rename_i hchk
          simp only [Bool.and_eq_true,decide_eq_true_eq] at hchk
          obtain ⟨hd,hcl⟩:=hchk
          obtain rfl:=Option.some.inj hb
          have hpos:=Ty.cells_pos e
          have hne:¬ (1*d.size=0):=by omega
          have hzs:z.cells.size=d.size:=by rw [← Array.length_toList,hzl,td.len]
          obtain ⟨vs', v1,v2,v3,v4⟩:=fill_rel s.inv.hvs (place:=fun i=>some (i*d.size,d.size)) (fun i=>some (i*d.size,d.size)) (fun i p hi=>hi) _ _ (List.replicate (1*d.size) .junk) cs ((Array.range (1*d.size)).map (z.cells[· % z.cells.size]!)) hf hl hrel (by simp) (fun j c hj=>by
            have:c=.junk:=by simp [List.getElem?_replicate] at hj;exact hj.2.symm
            rw [this];exact .junk _)
          have hrun:(execOp a.eval o).run P w=.ok (.value (.slice (some ⟨w.heap.size,0,none⟩) 1 1)) (w.alloc (.cells vs' E)):=by
            have hlim':¬ (16777216<1*d.size):=by omega
            simp at v1
            have hne':¬ (d.size=0):=by omega
            have hlim2:¬ (16777216<d.size):=by omega
            simp [execOp,ho,Instr.buildSlice,run_underlying hu,run_sizeOf' td,hne', hlim2,hz,v1,newRow]
          obtain ⟨k1,k2,k3,k4,k5,k6⟩:=putOwn_took _ _ _ _ _ _ _ hput
          obtain ⟨η1,s1,x1,e1,e2,e3,e4,e5,e6,e7⟩:=s.ownAll st.heap.length 0 hd (fun k o hm=>(k1 k o hm).1)
          have hlen1:({ st with heap:=deadAll ts st.heap }:St).heap.length=st.heap.length:=deadAll_length ts _
          obtain ⟨η2, s2, ra⟩ := s1.newDeep (E := E) (Es := d.own) (e := e) (l := [x]) (c := vs') (cap := 1) (by simp) (by simp [maxLen]) (by rw [v2, hcl]; simp) (fun r o => if r = 0 then newNv ts ns η.hv (fun _ => nilV) o else nilV) (fun r o => by
              split
              · exact newNv_sl s.inv.hvs (fun _=>⟨none,0,0,rfl⟩) o
              · exact ⟨none,0,0,rfl⟩) (fun η' hnv hO i y hy=>by
              obtain ⟨rfl,rfl⟩:i=0∧y=x:=by cases i<;>simp_all
              rw [hlen1] at hnv ⊢
              refine putOwn_rel (η:=η) (w:=w) (h:=st.heap.length) (H:=st.heap) (vs:=cs) (sub:=0) (fun k E fr e l hk=>s.inv.obj k _ hk) e d.own 0 e.dflt y ts ns (fun j=>vs'[0*e.cells+j]?) (fun j=>vs'[0*e.cells+j]?) hput (.inl fun j hj=>⟨by omega,by omega⟩) (fun j _ _=>rfl) (fun j hj _ y hy=>?_) (fun k o hm=>⟨?_,fun hn=>⟨?_,?_⟩⟩) (fun o hm=>?_)
              · simp only [Nat.zero_add,Nat.sub_zero] at hy
                have hlt:=(List.getElem?_eq_some_iff.1 hy).1
                refine ⟨vs'.getD j undef,?_,v4 j y hy⟩
                simp only [Nat.zero_mul,Nat.zero_add]
                exact getElem?_getD (by omega)
              · rw [hnv];simp only [if_true];exact newNv_ts k5 hm
              · rw [hO];exact e7 k o hm hn
              · obtain ⟨⟨E', fr', e', l', hk⟩,_⟩:=k1 k o hm
                exact alloc_old _ (s.inv.own k _ hk hn).2.2
              · rw [hnv];simp only [if_true];exact newNv_ns k6 hm)
          rw [hlen1] at ra
          refine wp_value hrun (hp _ _ _ _ _ hk s2 ?_)
          exact ra
        · cases hb
      · cases hb
    · cases hb
  · cases hb
end
end Go.Proofs.Ytccelbeahdcooaa.Eng
