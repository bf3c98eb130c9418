/- The engine, part 13: bytes, made rows, cuts, calls. -/
import Derived.Test.YtccelbeahdcooaaE12
import Derived.Laws.StructEq
namespace Go.Proofs.Ytccelbeahdcooaa.Eng
open Go Go.RowKit
set_option linter.unusedSimpArgs false
set_option linter.unusedVariables false

section
variable {P:Program} {N:Nat→Prop} {w0:World} {η0:Env} {h0:Nat} {we:World} {R:Type}
variable {η:Env} {st:St} {a:Act} {w:World} {o:Oper} {next:Act→World→Prop} {Q:Exit→Act→World→Prop} {K:AV→St→Option R} {r:R} {tt:TT} {S:Tab}

theorem run_append_str_at {t u ty E:TypeId} {i:TypeInfo} (ht:P.underlying t=some (.slice E)) (hu:P.underlying u=some .string) (hi:P.info? E=some i) (hz:i.zero=some (.int .u8 0)) (hsize:i.size=1) (hby:i.bytes=1)
  {v:Value} {n:Nat} {xs:List Value} (hown:w.ownsRow 0 E 1 v n xs) (s:ByteArray) (h63:n+s.size≤maxLen) (hbytes:n+s.size≤140737488355328) :
  ∃ v' w', (Builtin.append_ #[t,u] ty #[v,.string s]).run P w=.ok v' w'∧w'.ownsRow 0 E 1 v' (n+s.size) (xs++Lib.strCells s)∧w.grownBy w' v.ownBlock∧(v'.ownBlock=v.ownBlock∨v'.ownBlock=some w.heap.size):=by
 obtain ⟨v', w', q1,q2,q3,q4⟩:=Lib.run_append_own_string (P:=P) w 0 t u ty E i ht hu hi hz hsize hby v n xs hown s h63 hbytes (Nat.zero_le _)
 refine ⟨v', w', q1,q2,q3,?_⟩
 rcases hown.2 with ⟨rfl,rfl⟩ | ⟨g,cap,cur,rfl,hbg,hg,hnc,hcm,hcs,htake⟩
 ·by_cases h0:s.size=0
  ·left;rw [q4.2 ⟨rfl,h0⟩]
  ·right
   have hr:=run_append_nil_string (P:=P) w t u ty E i (.int .u8 0) ht hu hi hz s (by omega) (by simp only [maxLen] at h63;omega) (by rw [hby];omega)
   rw [q1] at hr
   injection hr with hr1 hr2
   rw [hr1];rfl
 ·by_cases hroom:n+s.size≤cap
  ·left
   have hr:=Lib.run_append_room_string (P:=P) w t u ty E i ht hu hi hsize g n cap cur hg s hroom (by omega)
   rw [q1] at hr
   injection hr with hr1 hr2
   rw [hr1];rfl
  ·right
   have holds:∀ j u,xs[j]? = some u→w.cell? ((⟨g,0,none⟩:Addr).add j)=some u:=hown.cells (g:=g) rfl
   have hr:=Lib.run_append_grow_string (P:=P) w t u ty E i (.int .u8 0) ht hu hi hz ⟨g,0,none⟩ n cap xs (by rw [hsize];exact hown.1) holds s (by omega) (by simp only [maxLen] at h63;omega) (growslice_fits (by omega) (by rw [hby];omega))
   rw [q1] at hr
   injection hr with hr1 hr2
   rw [hr1];rfl

theorem run_append_str_any {t u ty E:TypeId} {i:TypeInfo} (ht:P.underlying t=some (.slice E)) (hu:P.underlying u=some .string) (hi:P.info? E=some i) (hz:i.zero=some (.int .u8 0)) (hsize:i.size=1) (hby:i.bytes=1)
  {v:Value} {n:Nat} {xs:List Value} (hown:ownR w E 1 v n xs) (s:ByteArray) (h63:n+s.size≤maxLen) (hbytes:n+s.size≤140737488355328) :
  ∃ v' w', (Builtin.append_ #[t,u] ty #[v,.string s]).run P w=.ok v' w'∧ownR w' E 1 v' (n+s.size) (xs++Lib.strCells s)∧w.grownBy w' (blk v)∧(∀ g,blk v'=some g→blk v=some g∨g=w.heap.size):=by
 rcases hown with ⟨own,hbk⟩ | ⟨⟨B,rfl⟩,rfl,rfl⟩
 ·obtain ⟨v', w', q1,q2,q3,q4⟩:=run_append_str_at (ty:=ty) ht hu hi hz hsize hby own s h63 hbytes
  refine ⟨v', w', q1,ownR_of q2,by rw [hbk];exact q3,fun g hg=>?_⟩
  rw [hbk]
  rcases q4 with q4 | q4
  ·exact .inl (by rw [← q4];exact blk_own hg)
  ·right;have:=blk_own hg;rw [q4] at this;exact (Option.some.inj this).symm
 ·by_cases h0:s.size=0
  ·have hs0 : Lib.strCells s = [] := by
    have:(Lib.strCells s).length=s.size:=by rw [Lib.strCells,List.length_map,Array.length_toList];rfl
    exact List.eq_nil_of_length_eq_zero (by omega)
   refine ⟨_,w,?_,.inr ⟨⟨B,rfl⟩,by omega,by simp [hs0]⟩,⟨rfl,rfl,rfl,Nat.le_refl _,fun _ _ _=>rfl⟩,fun g hg=>.inl hg⟩
   have hx:(s.extract 0 0).data=#[]:=by
    have h:(s.extract 0 0).size=0:=by simp
    exact Array.eq_empty_of_size_eq_zero h
   cases B<;>simp [Builtin.append_,run_underlying ht,run_underlying hu,sizeOf,typeInfo,hi,hsize,Builtin.lenOf,Builtin.firstCells,h0,hx,storeCells]
  ·obtain ⟨v', w', q1,q2,q3,q4⟩:=run_append_str_at (v:=.slice none 0 0) (n:=0) (xs:=[]) (ty:=ty) ht hu hi hz hsize hby (World.ownsRow_nil w 0 E 1) s h63 hbytes
   have e:(Builtin.append_ #[t,u] ty #[.slice B 0 0,.string s]).run P w=(Builtin.append_ #[t,u] ty #[.slice none 0 0,.string s]).run P w:=by
    cases B with
    | none=>rfl
    | some b =>
     rw [run_append_nil_string (P:=P) w t u ty E i (.int .u8 0) ht hu hi hz s (by omega) (by simp only [maxLen] at h63;omega) (by rw [hby];omega),
      Lib.run_append_grow_string (P:=P) w t u ty E i (.int .u8 0) ht hu hi hz b 0 0 [] (by simp) (fun j v hv=>by simp at hv) s (by omega) (by simp only [maxLen] at h63;omega) (by rw [Nat.zero_add,nextslicecap_zero (by omega),hby];omega)]
     have e3:(Lib.strCells s).toArray=s.data.map (fun b=>Value.int .u8 b.toNat):=by
      apply Array.toList_inj.1;simp [Lib.strCells]
     rw [e3];simp
   have hkk:blk (.slice B 0 0)=none:=by cases B<;>rfl
   refine ⟨v', w', by rw [e];exact q1,ownR_of q2,by rw [hkk];exact q3,fun g hg=>?_⟩
   rcases q4 with q4 | q4
   ·have:=blk_own hg;rw [q4] at this;simp [Value.ownBlock] at this
   ·right;have:=blk_own hg;rw [q4] at this;exact (Option.some.inj this).symm

theorem strInts_length (s:ByteArray):(strInts s).length=s.size:=by rw [strInts,List.length_map,Array.length_toList];rfl
theorem strInts_lay {Z:Nat→Prop} (s:ByteArray):∀ i x,(strInts s)[i]? = some x→Lay Z w (.int .u8) x (fun j=>(Lib.strCells s)[i*1+j]?):=by
 intro i x hx
 obtain ⟨b,hb,rfl⟩:=getElem?_map_some hx
 simp only [Lay,Nat.mul_one,Nat.add_zero,Lib.strCells,List.getElem?_map,hb]
 rfl

theorem op_append_str [DF] (hT:TTok P tt) (s:SR N w0 η0 h0 we η st a w) {c:Call} (ho:o.op=.call c) (hcal:c.callee=.builtin .append) {sx x:Operand} {t u:TypeId} (hx:c.args.toList=[sx,x]) (ht:c.argTypes.toList=[t,u])
  (hu:descOf tt u=some .string) {E:TypeId} {d:TD} (he:elemOf' tt t=some (E,d)) (hE:descOf tt E=some (.int .u8)) (hd1:d.size=1) (hd2:d.bytes=1) (hd3:d.zero=[.int .u8 0])
  {fr0:Bool} {y:ByteArray} (hy:st.ev x=.t fr0 .str y) {id:Nat} (hs:st.ev sx=.all id 1) {fr:Bool} {l:List Int}
  (hob:st.heap[id]? = some (.rows E fr (.int .u8) l)) (hlim:l.length+y.size≤MAXB)
  (hk:K (.all id 1) { (st.kill [id]) with heap:=(st.kill [id]).heap.set id (.rows E fr (.int .u8) (l++strInts y)) }=some r) (hp:Post N w0 η0 h0 we K r o a next):o.wp P a w next Q:=by
 obtain ⟨htu,td⟩:=elemOf_spec hT he
 have huu:=descOf_spec hT hu
 have hxv:=s.ev x
 rw [hy] at hxv
 have ex:a.eval x=.string y:=toValue_rel hxv rfl
 obtain ⟨xs,o1,o2,o3⟩:=owns_of_rows s.inv hob
 obtain ⟨i,i1,i2,i3,z,i4,i5,i6⟩:=td.ex
 have hag:d.agg=false:=by
  have hE':=descOf_spec hT hE
  rw [td.agg]
  have:d.desc=.int .u8:=by have:=td.und;rw [hE'] at this;exact (Option.some.inj this).symm
  rw [this];rfl
 have hz:z=.int .u8 0:=by have:=i6 hag;rw [hd3] at this;simpa using this.symm
 subst hz
 have hsv:=s.ev sx
 rw [hs] at hsv
 generalize hg:a.eval sx=uv at hsv
 cases hsv with
 | all hid =>
  have hm:l.length+y.size≤maxLen:=by simp only [MAXB] at hlim;simp only [maxLen];omega
  obtain ⟨v', w', q1,q2,q3,q4⟩:=run_append_str_any (ty:=o.type) htu huu i1 i4 (by omega) (by omega) o1 y hm hlim
  obtain ⟨η', s', ra⟩:=s.append (f:=true) (e:=.int .u8) (ys:=strInts y) hob o1 o2 o3 (strInts_lay y) (by rw [strInts_length];exact q2) q3 q4
  rw [Bool.and_true] at s'
  refine wp_value (run_call_append hcal hx ht ho (by rw [hg,ex];exact q1)) (hp _ _ _ _ _ hk s' ?_)
  have:({ (st.kill [id]) with heap:=(st.kill [id]).heap.set id (.rows E fr (.int .u8) (l++strInts y)) }:St).heap.length=st.heap.length:=by simp [St.kill]
  rw [this];exact ra

theorem op_makeSlice [DF] (hT:TTok P tt) (s:SR N w0 η0 h0 we η st a w) {t:TypeId} {lx cx:Operand} (ho:o.op=.makeSlice t lx cx) {E:TypeId} {d:TD} (he:elemOf' tt t=some (E,d)) {n m:Int} (hl:(st.ev lx).asInt=some n) (hc:(st.ev cx).asInt=some m)
  {e:Ty} {z:e.den} {f:Bool} (hz:e.ofAVs (d.zero.map AV.ofValue)=some (z,f,[])) (hsz:e.cells=d.size) (h0n:0≤n) (hnm:n=m) (hlim:n.toNat*d.bytes≤MAXB) (h63:n≤9223372036854775807)
  (hk:K (.all st.heap.length e.cells) (st.new (.rows E f e (List.replicate n.toNat z)))=some r) (hp:Post N w0 η0 h0 we K r o a next):o.wp P a w next Q:=by
 obtain ⟨hu,td⟩:=elemOf_spec hT he
 obtain ⟨k1,e1⟩:=asInt_rel (s.ev lx) hl
 obtain ⟨k2,e2⟩:=asInt_rel (s.ev cx) hc
 obtain ⟨i,i1,i2,i3,zv,i4,i5,_⟩:=td.ex
 subst hnm
 have hb:(i.bytes:Int)*n≤281474976710656:=by
  have h1:((n.toNat*d.bytes:Nat):Int)≤140737488355328:=by simp only [MAXB] at hlim;omega
  rw [Int.natCast_mul,Int.toNat_of_nonneg h0n] at h1
  rw [i3,Int.mul_comm];omega
 have hr:=run_make (P:=P) w t E i zv hu i1 i4 k1 k2 n n h0n (Int.le_refl _) hb h63
 have hzs:zv.cells.size=e.cells:=by rw [hsz,← Array.length_toList,i5,td.len]
 have hzl:=(ofAVs_rel (η:=η) (h:=st.heap.length) (w:=w) s.inv.zsub e _ z f [] (fun j=>zv.cells[j]?) hz (fun j y hj=>by
  obtain ⟨v,hv,rfl⟩:=getElem?_map_some hj
  exact ⟨v,by rw [← Array.getElem?_toList,i5];exact hv,ofValue_rel v⟩)).1
 obtain ⟨η', s', ra,_⟩:=s.newRows (E:=E) (f:=f) (e:=e) (l:=List.replicate n.toNat z) (c:=madeCells zv.cells (n.toNat*i.size)) (cap:=n.toNat) (by simp) (by simp only [maxLen];omega) (by rw [size_madeCells,i2,hsz]) (fun k y hy=>by
  have hy':y=z∧k<n.toNat:=by simp [List.getElem?_replicate] at hy;exact ⟨hy.2.symm,by omega⟩
  obtain ⟨rfl,hkl⟩:=hy'
  refine Lay.congr e y _ _ (fun j hj=>?_) hzl
  have hlt:k*e.cells+j<n.toNat*i.size:=by
   have:(k+1)*e.cells≤n.toNat*e.cells:=Nat.mul_le_mul_right _ hkl
   rw [Nat.add_mul,Nat.one_mul] at this
   rw [i2,← hsz];omega
  have hmod:(k*e.cells+j) % zv.cells.size=j:=by rw [hzs,Nat.mul_comm,Nat.mul_add_mod,Nat.mod_eq_of_lt hj]
  simp only [madeCells,Array.getElem?_map,Array.getElem?_range,hlt,if_true,Option.map_some,hmod]
  rw [getElem!_pos zv.cells j (by omega),Array.getElem?_eq_getElem (by omega)])
 rw [List.length_replicate] at ra
 refine wp_value ?_ (hp _ _ _ _ _ hk s' ra)
 simp [execOp,ho,e1,e2,hr]

theorem op_makeOwn [DF] (hT:TTok P tt) (s:SR N w0 η0 h0 we η st a w) {t:TypeId} {lx cx:Operand} (ho:o.op=.makeSlice t lx cx) {E:TypeId} {d:TD} (he:elemOf' tt t=some (E,d)) {n m:Int} (hl:(st.ev lx).asInt=some n) (hc:(st.ev cx).asInt=some m)
  {e:Ty} {z:e.den} {ns:List Nat} {Es:List TypeId} (hz:e.putOwn [] Es 0 e.dflt 0 (d.zero.map AV.ofValue)=some (z,[],ns)) (hsz:e.cells=d.size) (h0n:0≤n) (hnm:n=m) (hlim:n.toNat*d.bytes≤MAXB) (h63:n≤9223372036854775807)
  (hk:K (.all st.heap.length e.cells) (st.new (.deep E Es e (List.replicate n.toNat z)))=some r) (hp:Post N w0 η0 h0 we K r o a next):o.wp P a w next Q:=by
 obtain ⟨hu,td⟩:=elemOf_spec hT he
 obtain ⟨k1,e1⟩:=asInt_rel (s.ev lx) hl
 obtain ⟨k2,e2⟩:=asInt_rel (s.ev cx) hc
 obtain ⟨i,i1,i2,i3,zv,i4,i5,_⟩:=td.ex
 subst hnm
 have hb:(i.bytes:Int)*n≤281474976710656:=by
  have h1:((n.toNat*d.bytes:Nat):Int)≤140737488355328:=by simp only [MAXB] at hlim;omega
  rw [Int.natCast_mul,Int.toNat_of_nonneg h0n] at h1
  rw [i3,Int.mul_comm];omega
 have hr:=run_make (P:=P) w t E i zv hu i1 i4 k1 k2 n n h0n (Int.le_refl _) hb h63
 have hzs:zv.cells.size=e.cells:=by rw [hsz,← Array.length_toList,i5,td.len]
 obtain ⟨η', s', ra⟩:=s.newDeep (E:=E) (Es:=Es) (e:=e) (l:=List.replicate n.toNat z) (c:=madeCells zv.cells (n.toNat*i.size)) (cap:=n.toNat) (by simp) (by simp only [maxLen];omega) (by rw [size_madeCells,i2,hsz]) (fun _ _=>nilV) (fun _ _=>⟨none,0,0,rfl⟩) (fun η' hnv hO k y hy=>by
  have hy':y=z∧k<n.toNat:=by simp [List.getElem?_replicate] at hy;exact ⟨hy.2.symm,by omega⟩
  obtain ⟨rfl,hkl⟩:=hy'
  have hzl:Own η' (w.alloc (.cells (madeCells zv.cells (n.toNat*i.size)) E)) st.heap.length k e Es 0 y (fun j=>zv.cells[j]?) :=
   putOwn_rel (η:=η) (w:=w) (h:=st.heap.length) (H:=[]) (vs:=d.zero.map AV.ofValue) (sub:=0) (fun k E fr e l hk=>by simp at hk) e Es 0 e.dflt y [] ns (fun j=>zv.cells[j]?) (fun j=>zv.cells[j]?) hz
    (.inl fun j hj=>⟨by omega,by simp [td.len];omega⟩) (fun j _ _=>rfl) (fun j hj _ y hy=>by
     simp only [Nat.zero_add,Nat.sub_zero] at hy
     obtain ⟨v,hv,rfl⟩:=getElem?_map_some hy
     exact ⟨v,by rw [← Array.getElem?_toList,i5];exact hv,ofValue_rel v⟩) (fun k o hm=>by simp at hm) (fun o _=>by rw [hnv])
  refine Own.congr e _ _ y _ _ (fun j hj=>?_) hzl
  have hlt:k*e.cells+j<n.toNat*i.size:=by
   have:(k+1)*e.cells≤n.toNat*e.cells:=Nat.mul_le_mul_right _ hkl
   rw [Nat.add_mul,Nat.one_mul] at this
   rw [i2,← hsz];omega
  have hmod:(k*e.cells+j) % zv.cells.size=j:=by rw [hzs,Nat.mul_comm,Nat.mul_add_mod,Nat.mod_eq_of_lt hj]
  simp only [madeCells,Array.getElem?_map,Array.getElem?_range,hlt,if_true,Option.map_some,hmod]
  rw [getElem!_pos zv.cells j (by omega),Array.getElem?_eq_getElem (by omega)])
 rw [List.length_replicate] at ra
 refine wp_value ?_ (hp _ _ _ _ _ hk s' ra)
 simp [execOp,ho,e1,e2,hr]

theorem run_bounds {b:Bool} {len cap:Nat} {lo hi:Option Value} {l h:Int} (hl:(lo=none∧l=0)∨∃ k,lo=some (.int k l)) (hh:(hi=none∧h=len)∨∃ k,hi=some (.int k h)) (h1:0≤l) (h2:l≤h) (h3:h≤(cap:Int)) :
  (Instr.sliceBounds b len cap lo hi none).run P w=.ok (l.toNat,h.toNat,cap) w:=by
 have hb:∀ (k:IntKind) (x:Int) (y:Nat) (code:BoundsCode),0≤x→x≤(y:Int)→(Instr.sliceBound (.int k x) y code).run P w=.ok x.toNat w:=by
  intro k x y code g1 g2
  simp [Instr.sliceBound,asIntOf,g1,g2]
 have hlh:l≤(h.toNat:Int):=by omega
 rcases hh with ⟨rfl,rfl⟩ | ⟨kh,rfl⟩<;>rcases hl with ⟨rfl,rfl⟩ | ⟨kl,rfl⟩
 ·simp [Instr.sliceBounds]
 ·simp [Instr.sliceBounds,hb kl l len _ h1 (by omega)]
 ·simp [Instr.sliceBounds,hb kh h cap _ (by omega) h3]
 ·simp [Instr.sliceBounds,hb kh h cap _ (by omega) h3,hb kl l h.toNat _ h1 hlh]

def BoundOk (st:St) (x:Option Operand) (dflt n:Int):Prop:=(x=none∧n=dflt)∨∃ y,x=some y∧(st.ev y).asInt=some n

theorem bound_rel [DF] (s:SR N w0 η0 h0 we η st a w) {x:Option Operand} {d n:Int} (h:BoundOk st x d n):(x.map a.eval=none∧n=d)∨∃ k,x.map a.eval=some (.int k n):=by
 rcases h with ⟨rfl,rfl⟩ | ⟨y,rfl,hy⟩
 ·exact .inl ⟨rfl,rfl⟩
 ·obtain ⟨k,hk⟩:=asInt_rel (s.ev y) hy
  exact .inr ⟨k,by simp [hk]⟩

theorem op_slice_str [DF] (hT:TTok P tt) (s:SR N w0 η0 h0 we η st a w) {t:TypeId} {x:Operand} {lo hi:Option Operand} (ho:o.op=.slice t x lo hi none) (hd:descOf tt t=some .string) {fr:Bool} {b:ByteArray} (hx:st.ev x=.t fr .str b) {l h:Int}
  (hl:BoundOk st lo 0 l) (hh:BoundOk st hi b.size h) (h1:0≤l) (h2:l≤h) (h3:h≤(b.size:Int))
  (hk:K (.t true .str (b.extract l.toNat h.toNat)) st=some r) (hp:Post N w0 η0 h0 we K r o a next):o.wp P a w next Q:=by
 have hu:=descOf_spec hT hd
 have hxv:=s.ev x
 rw [hx] at hxv
 have ex:a.eval x=.string b:=toValue_rel hxv rfl
 have hbn:=run_bounds (P:=P) (w:=w) (b:=false) (cap:=b.size) (bound_rel s hl) (bound_rel s hh) h1 h2 h3
 refine wp_value (w':=w) ?_ (hp _ _ _ _ _ hk s (.t (v:=.string (b.extract l.toNat h.toNat)) rfl (by simp [Lay])))
 simp [execOp,ho,ex,Instr.sliceAt,run_underlying hu,Instr.slice,hbn]

theorem op_slice [DF] (hT:TTok P tt) (s:SR N w0 η0 h0 we η st a w) {t:TypeId} {x:Operand} {lo hi:Option Operand} (ho:o.op=.slice t x lo hi none) {E:TypeId} (hd:descOf tt t=some (.slice E)) {d:TD} (hE:tt E=some d) {n:Nat} (hn:(st.ev x).len st.heap=some n) {l h:Int}
  (hl:BoundOk st lo 0 l) (hh:BoundOk st hi n h) (h1:0≤l) (h2:l≤h) (h3:h≤(n:Int)) {v:AV}
  (hv:(∃ fr e xs,st.ev x=.t fr (.sl e) xs∧e.cells=d.size∧v=.t fr (.sl e) ((xs.take h.toNat).drop l.toNat)) ∨
   (∃ id sz q k,st.ev x=.arr id sz q k∧sz=d.size∧v=.arr id sz (q+l.toNat) (h.toNat - l.toNat)))
  (hk:K v st=some r) (hp:Post N w0 η0 h0 we K r o a next):o.wp P a w next Q:=by
 have hu:=descOf_spec hT hd
 have td:=hT _ _ hE
 have hxv:=s.ev x
 have key:∃ A cap,a.eval x=.slice A n cap∧n≤cap∧AVR η st.heap.length w v (.slice (if cap=l.toNat then A else A.map (·.add (l.toNat*d.size))) (h.toNat - l.toNat) (cap - l.toNat)):=by
  rcases hv with ⟨fr,e,xs,e1,e2,rfl⟩ | ⟨id,sz,q,k,e1,e2,rfl⟩
  ·rw [e1] at hxv hn
   simp only [AV.len,Option.some.injEq] at hn
   generalize a.eval x=u at hxv
   cases hxv with
   | t hc hlay =>
    obtain ⟨A,cap,c1,c2,c3⟩:=hlay
    simp only [if_true,Option.some.injEq] at c1
    have hlen:((xs.take h.toNat).drop l.toNat).length=h.toNat - l.toNat:=by simp;omega
    refine ⟨A,cap,by rw [c1,hn],by omega,.t rfl ⟨_,cap - l.toNat,by simp only [if_true];rw [hlen],by rw [hlen];omega,?_⟩⟩
    by_cases hz:h.toNat - l.toNat=0
    ·exact .inl (List.eq_nil_of_length_eq_zero (by omega))
    ·right
     rcases c3 with rfl | ⟨ad,rfl,hzz,c4⟩
     ·simp at hn;omega
     ·have hne:cap ≠ l.toNat:=by omega
      refine ⟨ad.add (l.toNat*d.size),by simp [hne],by rw [addr_block];exact hzz,fun i y hy=>?_⟩
      rw [List.getElem?_drop,List.getElem?_take] at hy
      split at hy
      ·refine Lay.congr e y _ _ (fun j _=>?_) (c4 _ y hy)
       rw [addr_add,e2,Nat.add_mul,Nat.add_assoc]
      ·cases hy
  ·rw [e1] at hxv hn
   simp only [AV.len,Option.some.injEq] at hn
   subst hn
   generalize a.eval x=u at hxv
   cases hxv with
   | @arr id sz q k cap A hid hk' hlo hA =>
    refine ⟨A,cap,rfl,hk', .arr hid (by omega) (by omega) (fun hp=>?_)⟩
    have hne:cap ≠ l.toNat:=by omega
    rw [hA (by omega)]
    simp only [hne,if_false,Option.map_some]
    rw [addr_at,← e2,Nat.add_mul]
 obtain ⟨A,cap,ex,hc,rv⟩:=key
 have hbn:=run_bounds (P:=P) (w:=w) (b:=true) (cap:=cap) (bound_rel s hl) (bound_rel s hh) h1 h2 (by omega)
 refine wp_value (w':=w) ?_ (hp _ _ _ _ _ hk s rv)
 simp [execOp,ho,ex,Instr.sliceAt,run_underlying hu,Instr.slice,hbn,run_sizeOf' td]

theorem add_zero' (ad:Addr):ad.add 0=ad:=by unfold Addr.add;simp
theorem full_rel {H:List AObj} (I:Inv N w0 η H w) {x:AV} {u:Value} (r:AVR η H.length w x u) {n id sz:Nat} (hn:x.len H=some n) {e:Ty} {xs:List e.den} (hob:RowsAt H id e xs)
  (hx:x=.all id sz∨∃ k,x=.pre id sz k):id<H.length∧∃ A cap,u=.slice A n cap∧xs.length≤cap∧n≤xs.length∧η.hv id=.slice A xs.length cap∧(0<xs.length→A=some ⟨η.ι id,0,none⟩)∧η.ln id=xs.length:=by
 obtain ⟨g1,g2⟩:=all_rel2 I hob
 rcases hx with rfl | ⟨k,rfl⟩
 ·cases r with
  | all hid =>
   have hnn:xs.length=n:=by
    rcases hob with ⟨_,_,h⟩ | ⟨_,_,h⟩<;>simp only [AV.len,h] at hn<;>split at hn
    ·exact Option.some.inj hn
    ·cases hn
    ·exact Option.some.inj hn
    ·cases hn
   subst hnn
   refine ⟨hid,?_⟩
   rcases g2 with ⟨⟨B,g2⟩,rfl⟩ | ⟨cap,g2,g3⟩
   ·exact ⟨B,0,by rw [g2];rfl,by simp,by simp,g2,fun h=>by simp at h,g1⟩
   ·exact ⟨_,cap,g2,g3,Nat.le_refl _,g2,fun _=>rfl,g1⟩
 ·cases r with
  | @pre _ _ _ m cap A hid hv hnm hc =>
   simp only [AV.len,Option.some.injEq] at hn
   subst hn
   rcases g2 with ⟨⟨B,g2⟩,rfl⟩ | ⟨cap', g2,g3⟩
   ·rw [g2,Value.slice.injEq] at hv
    obtain ⟨rfl,rfl,rfl⟩:=hv
    exact ⟨hid,B,0,rfl,by simp,by simpa using hnm,g2,fun h=>by simp at h,g1⟩
   ·rw [g2,Value.slice.injEq] at hv
    obtain ⟨rfl,rfl,rfl⟩:=hv
    exact ⟨hid,_,cap', rfl,g3,hnm,g2,fun _=>rfl,g1⟩

theorem op_sliceFull [DF] (hT:TTok P tt) (s:SR N w0 η0 h0 we η st a w) {t:TypeId} {x:Operand} {lo hi:Option Operand} (ho:o.op=.slice t x lo hi none) {E:TypeId} (hd:descOf tt t=some (.slice E)) {d:TD} (hE:tt E=some d) {n:Nat} (hn:(st.ev x).len st.heap=some n) {l h:Int}
  (hl:BoundOk st lo 0 l) (hh:BoundOk st hi n h) (h1:0≤l) (h2:l≤h) {id sz:Nat} {e:Ty} {xs:List e.den} (hob:RowsAt st.heap id e xs) (h3:h≤(xs.length:Int))
  (hx:st.ev x=.all id sz∨∃ k,st.ev x=.pre id sz k) (hsz:sz=d.size)
  (hk:K (cutAV lo id sz l h) st=some r) (hp:Post N w0 η0 h0 we K r o a next):o.wp P a w next Q:=by
 have hu:=descOf_spec hT hd
 have td:=hT _ _ hE
 obtain ⟨hid,A,cap,ex,hnc,hnm,hv,hA,hln⟩:=full_rel s.inv (s.ev x) hn hob hx
 have rv:AVR η st.heap.length w (cutAV lo id sz l h) (.slice (if cap=l.toNat then A else A.map (·.add (l.toNat*d.size))) (h.toNat - l.toNat) (cap - l.toNat)):=by
  cases lo with
  | none =>
   obtain rfl:l=0:=by
    rcases hl with ⟨_,e⟩ | ⟨y,e,_⟩
    ·exact e
    ·cases e
   have e0:(if cap=(0:Int).toNat then A else A.map (·.add ((0:Int).toNat*d.size)))=A:=by
    split
    ·rfl
    ·cases A<;>simp [add_zero']
   rw [e0]
   simp only [cutAV,Int.toNat_zero,Nat.sub_zero]
   exact .pre hid hv (by omega) (by omega)
  | some y =>
   simp only [cutAV]
   refine .arr hid (by omega) (by omega) (fun hp=>?_)
   have hne:cap ≠ l.toNat:=by omega
   rw [hA (by omega)]
   simp only [hne,if_false,Option.map_some]
   rw [addr_at,Nat.zero_add,hsz]
 have hbn:=run_bounds (P:=P) (w:=w) (b:=true) (cap:=cap) (bound_rel s hl) (bound_rel s hh) h1 h2 (by omega)
 refine wp_value (w':=w) ?_ (hp _ _ _ _ _ hk s rv)
 simp [execOp,ho,ex,Instr.sliceAt,run_underlying hu,Instr.slice,hbn,run_sizeOf' td]

theorem zeroCells_get {z:Array Value} {n k:Nat} (hz:0<z.size) (hk:k<n*z.size):(Builtin.zeroCells z n)[k]? = z[k % z.size]?:=by
 have hm:k % z.size<z.size:=Nat.mod_lt _ hz
 simp only [Builtin.zeroCells,Array.getElem?_map,Array.getElem?_range]
 rw [if_pos hk,Option.map_some,getElem!_pos z _ hm,Array.getElem?_eq_getElem hm]

theorem op_clear [DF] (hT:TTok P tt) (s:SR N w0 η0 h0 we η st a w) {c:Call} (ho:o.op=.call c) (hcal:c.callee=.builtin .clear) {x:Operand} {t:TypeId} (hx:c.args.toList=[x]) (ht:c.argTypes.toList=[t]) {E:TypeId} {d:TD} (he:elemOf' tt t=some (E,d))
  {id sz lo:Nat} {n:Option Nat} (hv:(st.ev x=.all id sz∧lo=0∧n=none)∨∃ k,st.ev x=.arr id sz lo k∧n=some k) {E':TypeId} {fr:Bool} {e:Ty} {l:List e.den} (hob:st.heap[id]? = some (.rows E' fr e l))
  {z:e.den} (hz:e.ofAVs (d.zero.map AV.ofValue)=some (z,true,[])) (h1:sz=e.cells) (h2:e.cells=d.size)
  (hk:K (.raw undef) { st with heap:=st.heap.set id (.rows E' fr e (l.take lo++List.replicate (n.getD l.length) z++l.drop (lo+n.getD l.length))) }=some r) (hp:Post N w0 η0 h0 we K r o a next):o.wp P a w next Q:=by
 obtain ⟨hu,td⟩:=elemOf_spec hT he
 obtain ⟨i,i1,i2,i3,zv,i4,i5,i6⟩:=td.ex
 have ea:c.args=#[x]:=by rw [← Array.toArray_toList (xs:=c.args),hx]
 have et:c.argTypes=#[t]:=by rw [← Array.toArray_toList (xs:=c.argTypes),ht]
 obtain ⟨hln,R⟩:=s.inv.obj id _ hob
 have hxv:=s.ev x
 generalize hm:n.getD l.length=m at hk
 -- the slice
 have key:∃ A cap,a.eval x=.slice A m cap∧lo+m≤l.length∧(0<m→A=some ⟨η.ι id,lo*sz,none⟩):=by
  rcases hv with ⟨e1,rfl,rfl⟩ | ⟨k,e1,rfl⟩
  ·rw [e1] at hxv
   simp only [Option.getD_none] at hm
   subst hm
   generalize a.eval x=u at hxv
   cases hxv with
   | all hid =>
    rcases R with ⟨⟨B,g⟩,rfl⟩ | ⟨cc,cap,g1,_⟩
    ·exact ⟨B,0,g,by simp,fun h=>by simp at h⟩
    ·exact ⟨_,cap,g1,by simp,fun _=>by simp⟩
  ·rw [e1] at hxv
   simp only [Option.getD_some] at hm
   subst hm
   generalize a.eval x=u at hxv
   cases hxv with
   | @arr _ _ _ _ cap A hid hn hlo hA=>exact ⟨A,cap,rfl,by omega,hA⟩
 obtain ⟨A,cap,ex,hle,hA⟩:=key
 by_cases h0:m=0
 ·subst h0
  have hsame:l.take lo++List.replicate 0 z++l.drop (lo+0)=l:=by simp
  rw [hsame] at hk
  have hset:st.heap.set id (.rows E' fr e l)=st.heap:=by
   apply List.ext_getElem?
   intro j
   rw [List.getElem?_set]
   split
   ·rename_i hj;subst hj
    have:=(List.getElem?_eq_some_iff.1 hob).1
    rw [if_pos this];exact hob.symm
   ·rfl
  rw [hset] at hk
  refine wp_value (w':=w) ?_ (hp _ _ _ _ _ hk s (.raw _))
  simp only [execOp,ho,Sem.run_bind]
  cases A<;>simp [resolve,hcal,ea,et,invoke,builtin,Builtin.clear_,run_underlying hu,ex,undef]
 ·rcases R with ⟨_,rfl⟩ | ⟨cc,cp,g1,g2,g3,g4,g5,g6⟩
  ·simp at hle;omega
  ·obtain rfl:=hA (by omega)
   have hzs:zv.cells.size=e.cells:=by rw [h2,← Array.length_toList,i5,td.len]
   have hcp:=e.cells_pos
   have hzl:=(ofAVs_rel (η:=η) (h:=st.heap.length) (w:=w) s.inv.zsub e _ z true [] (fun j=>zv.cells[j]?) hz (fun j y hj=>by
    obtain ⟨v,hv,rfl⟩:=getElem?_map_some hj
    exact ⟨v,by rw [← Array.getElem?_toList,i5];exact hv,ofValue_rel v⟩)).1
   have hus:(Builtin.zeroCells zv.cells m).size=m*e.cells:=by simp [Builtin.zeroCells,hzs]
   have hone:∀ u∈(Builtin.zeroCells zv.cells m).toList,u.oneCell'=true:=by
    intro u hu
    obtain ⟨k,hk1⟩:=List.mem_iff_getElem?.1 hu
    rw [Array.getElem?_toList] at hk1
    have hlt:k<m*zv.cells.size:=by rw [hzs,← hus];exact (Array.getElem?_eq_some_iff.1 hk1).1
    rw [zeroCells_get (by omega) hlt] at hk1
    obtain ⟨u', q1,q2⟩:=hzl.got e z _ (k % zv.cells.size) (by rw [← hzs];exact Nat.mod_lt _ (by omega))
    rw [q1] at hk1
    rw [← Option.some.inj hk1];exact q2
   have hfit:lo*sz+0+(Builtin.zeroCells zv.cells m).toList.length≤cc.size:=by
    rw [Array.length_toList,hus,g5,h1]
    have:(lo+m)*e.cells≤cp*e.cells:=Nat.mul_le_mul_right _ (by omega)
    rw [Nat.add_mul] at this
    omega
   have hrun:=run_storeCells_at P (η.ι id) (lo*sz) E' (Builtin.zeroCells zv.cells m).toList 0 cc w g2 hfit hone
   have hcell:∀ k,(cc.toList.take (lo*sz+0)++(Builtin.zeroCells zv.cells m).toList++cc.toList.drop (lo*sz+0+(Builtin.zeroCells zv.cells m).toList.length)).toArray[k]? = if k<lo*sz then cc[k]? else if k<lo*sz+m*sz then (Builtin.zeroCells zv.cells m)[k - lo*sz]? else cc[k]?:=by
    intro k
    simp only [List.getElem?_toArray]
    rw [seg_get (by simpa using hfit)]
    simp only [Nat.add_zero,Array.getElem?_toList,Array.length_toList,hus,h1]
   have hlen:(l.take lo++List.replicate m z++l.drop (lo+m)).length=l.length:=by simp;omega
   obtain ⟨J,x⟩:=s.inv.setRow (o:=.rows E' fr e l) (o':=.rows E' fr e (l.take lo++List.replicate m z++l.drop (lo+m))) hob (not_nul g1 g4.1)
    (cc.toList.take (lo*sz+0)++(Builtin.zeroCells zv.cells m).toList++cc.toList.drop (lo*sz+0+(Builtin.zeroCells zv.cells m).toList.length)).toArray (fun xx=>by
    refine ⟨by rw [hln,hlen],.inr ⟨_,cp,by rw [hlen];exact g1,setRow_heap w _ cc _ E' (0,0) g2,by rw [hlen];exact g3,g4,?_,fun k y hy=>?_⟩⟩
    ·simp only [List.size_toArray,List.length_append,List.length_take,List.length_drop,Array.length_toList]
     rw [Array.length_toList] at hfit
     omega
    ·have hseg:=seg_get (l:=l) (vs:=List.replicate m z) (i:=lo) (j:=k) (by simpa using hle)
     rw [List.length_replicate] at hseg
     rw [hseg] at hy
     have old:∀ (hy:l[k]? = some y),(k<lo∨lo+m≤k)→Lay (η.Z fr) (w.setRow (η.ι id) (cc.toList.take (lo*sz+0)++(Builtin.zeroCells zv.cells m).toList++cc.toList.drop (lo*sz+0+(Builtin.zeroCells zv.cells m).toList.length)).toArray) e y (fun j=>(cc.toList.take (lo*sz+0)++(Builtin.zeroCells zv.cells m).toList++cc.toList.drop (lo*sz+0+(Builtin.zeroCells zv.cells m).toList.length)).toArray[k*e.cells+j]?):=by
      intro hy hk'
      refine Lay.congr e y _ _ (fun j hj=>?_) (lay_cell_mono (xx 0).z (xx 0).same (g6 k y hy))
      rw [hcell,h1]
      rcases hk' with hk' | hk'
      ·have:(k+1)*e.cells≤lo*e.cells:=Nat.mul_le_mul_right _ hk'
       rw [Nat.add_mul] at this
       rw [if_pos (by omega)]
      ·have:(lo+m)*e.cells≤k*e.cells:=Nat.mul_le_mul_right _ hk'
       rw [Nat.add_mul] at this
       rw [if_neg (by omega),if_neg (by omega)]
     split at hy
     ·rename_i hk';exact old hy (.inl hk')
     ·rename_i hk'
      split at hy
      ·rename_i hk2
       have hy':y=z:=by
        rw [List.getElem?_replicate] at hy
        split at hy
        ·exact (Option.some.inj hy).symm
        ·cases hy
       subst hy'
       have hz2:Lay (η.Z fr) w e y (fun j=>zv.cells[j]?):=Lay.down s.inv.zsub (by simp) hzl
       refine Lay.congr e y _ _ (fun j hj=>?_) (lay_cell_mono (xx 0).z (xx 0).same hz2)
       have q1:lo*e.cells≤k*e.cells:=Nat.mul_le_mul_right _ (by omega)
       have q2:(k+1)*e.cells≤(lo+m)*e.cells:=Nat.mul_le_mul_right _ (by omega)
       rw [Nat.add_mul,Nat.add_mul] at q2
       rw [hcell,h1,if_neg (by omega),if_pos (by omega),zeroCells_get (by omega) (by rw [hzs];omega),hzs]
       have:k*e.cells+j - lo*e.cells=(k - lo)*e.cells+j:=by rw [Nat.mul_sub_right_distrib];omega
       rw [this,Nat.mul_comm,Nat.mul_add_mod,Nat.mod_eq_of_lt hj]
      ·rename_i hk2;exact old hy (.inr (by omega))) (fun _ _ h=>h)
   refine wp_value ?_ (hp _ _ η _ _ hk ⟨J,by simpa using s.ext.trans (x _) (fun id _ hk=>⟨hk,rfl⟩),by simpa using s.sl.ext (x _),s.base⟩ (.raw _))
   obtain ⟨m', rfl⟩:∃ m', m=m'+1:=⟨m - 1,by omega⟩
   have hzv:(zeroValue E).run P w=.ok zv w:=by simp [zeroValue,typeInfo,i1,i4]
   simp [execOp,ho,resolve,hcal,ea,et,invoke,builtin,Builtin.clear_,run_underlying hu,ex,hzv,hrun,undef]

theorem op_append_pre [DF] (hT:TTok P tt) (s:SR N w0 η0 h0 we η st a w) {c:Call} (ho:o.op=.call c) (hcal:c.callee=.builtin .append) {sx x:Operand} {t:TypeId} (hx:c.args.toList=[sx,x]) (ht:c.argTypes.toList=[t,t])
  {E:TypeId} {d:TD} (he:elemOf' tt t=some (E,d)) {e:Ty} {ys:List e.den} {f:Bool} (hv:e.sl.ofAVs [view1 st.heap (st.ev x)]=some (ys,f,[])) {id n:Nat} (hs:st.ev sx=.pre id e.cells n) {fr:Bool} {l:List e.den}
  (hob:st.heap[id]? = some (.rows E fr e l)) (hsz:e.cells=d.size) (hf:(!fr||f||e.flat)=true) (hle:n+ys.length≤l.length)
  (hk:K (.pre id e.cells (n+ys.length)) { st with heap:=st.heap.set id (.rows E fr e (l.take n++ys++l.drop (n+ys.length))) }=some r) (hp:Post N w0 η0 h0 we K r o a next):o.wp P a w next Q:=by
 obtain ⟨hu,td⟩:=elemOf_spec hT he
 obtain ⟨i,i1,i2,i3,zv,i4,i5,i6⟩:=td.ex
 obtain ⟨A,cp,news,e1,e2,hr⟩:=ofAVs_view s.inv (s.ev x) hv
 obtain ⟨hln,R⟩:=s.inv.obj id _ hob
 have hsv:=s.ev sx
 obtain ⟨hid,A0,cap,ex,hnc,hnm,hhv,hA0,_⟩:=full_rel s.inv (n:=n) (sz:=e.cells) (by rw [hs] at hsv;exact hsv) (by simp only [AV.len]) (.inl ⟨_,_,hob⟩) (.inr ⟨n,rfl⟩)
 have hpre:∀ m,m≤l.length→AVR η st.heap.length w (.pre id e.cells m) (.slice A0 m cap):=fun m hm=>.pre hid hhv hm (by omega)
 by_cases h0:ys=[]
 ·subst h0
  have hsame:l.take n++([]:List e.den)++l.drop (n+([]:List e.den).length)=l:=by simp
  rw [hsame] at hk
  have hset:st.heap.set id (.rows E fr e l)=st.heap:=by
   apply List.ext_getElem?
   intro j
   rw [List.getElem?_set]
   split
   ·rename_i hj;subst hj
    have:=(List.getElem?_eq_some_iff.1 hob).1
    first | exact hob.symm | (rw [if_pos this];exact hob.symm)
   ·rfl
  rw [hset] at hk
  exact wp_value (run_call_append hcal hx ht ho (by rw [ex,e1];exact run_append_zero hu td (by omega))) (hp _ _ _ _ _ hk s (hpre n (by omega)))
 ·have hpos:0<ys.length:=List.length_pos_iff.2 h0
  rcases R with ⟨_,rfl⟩ | ⟨cc,cp', g1,g2,g3,g4,g5,g6⟩
  ·simp only [List.length_nil] at hle;omega
  ·obtain ⟨rfl, rfl⟩ : A0 = some ⟨η.ι id, 0, none⟩ ∧ cap = cp' := by
    rw [g1,Value.slice.injEq] at hhv;exact ⟨hhv.1.symm,hhv.2.2.symm⟩
   cases A with
   | none=>exact absurd (hr.some_ rfl) h0
   | some ad =>
    have hil:i.size=e.cells:=by rw [hsz,i2]
    have hfit:n*e.cells+news.length≤cc.size:=by
     rw [hr.len,g5,← Nat.add_mul]
     exact Nat.mul_le_mul_right _ (by omega)
    have hrun:=run_append_room (P:=P) w t o.type E i hu i1 (η.ι id) n cap cc g2 ad ys.length cp news (by rw [hil];exact hr.len) (hr.at_ ad rfl) hr.one (by omega) (by rw [hil];exact hfit)
    rw [hil] at hrun
    have hcell:∀ k,(cc.toList.take (n*e.cells)++news++cc.toList.drop (n*e.cells+news.length)).toArray[k]? = if k<n*e.cells then cc[k]? else if k<n*e.cells+news.length then news[k - n*e.cells]? else cc[k]?:=by
     intro k
     simp only [List.getElem?_toArray]
     rw [seg_get (by simpa using hfit)]
     simp only [Array.getElem?_toList]
    have hlen:(l.take n++ys++l.drop (n+ys.length)).length=l.length:=by simp;omega
    obtain ⟨J,x'⟩:=s.inv.setRow (o:=.rows E fr e l) (o':=.rows E fr e (l.take n++ys++l.drop (n+ys.length))) hob (not_nul g1 g4.1)
     (cc.toList.take (n*e.cells)++news++cc.toList.drop (n*e.cells+news.length)).toArray (fun xx=>by
     refine ⟨by rw [hln,hlen],.inr ⟨_,cap,by rw [hlen];exact g1,setRow_heap w _ cc _ E (0,0) g2,by rw [hlen];exact g3,g4,?_,fun k y hy=>?_⟩⟩
     ·simp only [List.size_toArray,List.length_append,List.length_take,List.length_drop,Array.length_toList]
      omega
     ·have hseg:=seg_get (l:=l) (vs:=ys) (i:=n) (j:=k) (by omega)
      rw [hseg] at hy
      have old:∀ (hy:l[k]? = some y),(k<n∨n+ys.length≤k)→Lay (η.Z fr) (w.setRow (η.ι id) (cc.toList.take (n*e.cells)++news++cc.toList.drop (n*e.cells+news.length)).toArray) e y (fun j=>(cc.toList.take (n*e.cells)++news++cc.toList.drop (n*e.cells+news.length)).toArray[k*e.cells+j]?):=by
       intro hy hk'
       refine Lay.congr e y _ _ (fun j hj=>?_) (lay_cell_mono (xx 0).z (xx 0).same (g6 k y hy))
       rw [hcell]
       rcases hk' with hk' | hk'
       ·have:(k+1)*e.cells≤n*e.cells:=Nat.mul_le_mul_right _ hk'
        rw [Nat.add_mul] at this
        rw [if_pos (by omega)]
       ·have:(n+ys.length)*e.cells≤k*e.cells:=Nat.mul_le_mul_right _ hk'
        rw [Nat.add_mul,← hr.len] at this
        rw [if_neg (by omega),if_neg (by omega)]
      split at hy
      ·rename_i hk';exact old hy (.inl hk')
      ·rename_i hk'
       split at hy
       ·rename_i hk2
        have hl1:Lay (η.Z fr) w e y (fun j=>news[(k - n)*e.cells+j]?):=by
         have q:=hr.lay _ y hy
         cases fr with
         | false=>cases f with
          | false=>exact q
          | true=>exact Lay.down s.inv.zsub (by simp) q
         | true=>cases f with
          | true=>exact q
          | false=>exact Lay.of_flat e y _ (by simpa using hf) q
        refine Lay.congr e y _ _ (fun j hj=>?_) (lay_cell_mono (xx 0).z (xx 0).same hl1)
        have q1:n*e.cells≤k*e.cells:=Nat.mul_le_mul_right _ (by omega)
        have q2:(k+1)*e.cells≤(n+ys.length)*e.cells:=Nat.mul_le_mul_right _ (by omega)
        rw [Nat.add_mul,Nat.add_mul,← hr.len] at q2
        rw [hcell,if_neg (by omega),if_pos (by omega)]
        have:k*e.cells+j - n*e.cells=(k - n)*e.cells+j:=by rw [Nat.mul_sub_right_distrib];omega
        rw [this]
       ·rename_i hk2;exact old hy (.inr (by omega))) (fun _ _ h=>h)
    refine wp_value (run_call_append hcal hx ht ho (by rw [ex,e1];exact hrun)) (hp _ _ η _ _ hk ⟨J,by simpa using s.ext.trans (x' _) (fun id _ hk=>⟨hk,rfl⟩),by simpa using s.sl.ext (x' _),s.base⟩ ?_)
    have:=(hpre (n+ys.length) hle).ext (x' _)
    simpa using this

theorem equal_nil {t E:TypeId} (hu:P.underlying t=some (.slice E)) (ad:Addr) (n c:Nat):(Op.equal t (.slice (some ad) n c) (.slice none 0 0)).run P w=.ok false w:=by
 show (Op.equalIn (Op.maxDepth - 1+1) t _ _).run P w=_
 rw [Op.equalIn]
 simp only [Sem.run_bind,run_underlying hu,Result.andThen_ok]
 rfl
theorem guard_nil (op:BinOp) (t:TypeId) (x y:Operand) (A:Option Addr) (n c:Nat):(eqGuard op t x y (.slice A n c) (.slice none 0 0)).run P w=.ok () w:=by
 cases op<;>rfl
theorem bin_nil {t E:TypeId} (hu:P.underlying t=some (.slice E)) (ad:Addr) (n c:Nat):(binOp .eql t (.slice (some ad) n c) (.slice none 0 0)).run P w=.ok (.bool false) w:=by
 show (do pure (Value.bool (← Op.equal t (.slice (some ad) n c) (.slice none 0 0))):Sem Value).run P w=_
 simp only [Sem.run_bind,equal_nil hu,Result.andThen_ok,Sem.run_pure]
theorem bin_nnil {t E:TypeId} (hu:P.underlying t=some (.slice E)) (ad:Addr) (n c:Nat):(binOp .neq t (.slice (some ad) n c) (.slice none 0 0)).run P w=.ok (.bool true) w:=by
 show (do pure (Value.bool (!(← Op.equal t (.slice (some ad) n c) (.slice none 0 0)))):Sem Value).run P w=_
 simp only [Sem.run_bind,equal_nil hu,Result.andThen_ok,Sem.run_pure]
 rfl
theorem op_eqNil [DF] (hT:TTok P tt) (s:SR N w0 η0 h0 we η st a w) {op:BinOp} {t t':TypeId} {x y:Operand} (ho:o.op=.binOp op t x y t') {p:TypeId×TD} (he:elemOf' tt t=some p) {fr:Bool} {e:Ty} {l:List e.den} (hx:view1 st.heap (st.ev x)=.t fr (.sl e) l)
  (hy:st.ev y=.raw (.slice none 0 0)) (hl:0<l.length) {b:Bool} (hb:eqNil op=some b) (hk:K (.t true .bool b) st=some r) (hp:Post N w0 η0 h0 we K r o a next):o.wp P a w next Q:=by
 obtain ⟨E,d⟩:=p
 obtain ⟨hu,td⟩:=elemOf_spec hT he
 obtain ⟨A,c,news,e1,e2,hr⟩:=view1_reads s.inv (s.ev x) hx
 have ey:a.eval y=.slice none 0 0:=by
  have h:=s.ev y
  rw [hy] at h
  generalize a.eval y=u at h
  cases h;rfl
 cases A with
 | none=>rw [hr.some_ rfl] at hl;simp at hl
 | some ad =>
  refine wp_value (w':=w) ?_ (hp _ _ _ _ _ hk s (.t (v:=.bool b) rfl (by simp [Lay])))
  have hrun:(binOp op t (.slice (some ad) l.length c) (.slice none 0 0)).run P w=.ok (.bool b) w:=by
   cases op<;>simp only [eqNil,Option.some.injEq,reduceCtorEq] at hb<;>subst hb
   ·exact bin_nil hu ad _ _
   ·exact bin_nnil hu ad _ _
  simp only [execOp,ho,e1,ey,Sem.run_bind,guard_nil,hrun,Result.andThen_ok,Sem.run_pure]

theorem eqFs_run (hT:TTok P tt) {η:Env} {h:Nat} {w:World} (d:Nat):∀ (fs:List Field) (k:Nat) (as bs:List AV) (r:Bool) (xs ys:Array Value),eqFs tt k fs as bs=some r →
    (∀ i c,as[i]? = some c→AVR η h w c (xs.getD (k+i) undef))→(∀ i c,bs[i]? = some c→AVR η h w c (ys.getD (k+i) undef))→xs.size=k+as.length→ys.size=k+bs.length→(Op.eqFields (d+1) xs ys fs).run P w=.ok r w:=by
  intro fs
  induction fs with
  | nil =>
    intro k as bs r xs ys e _ _ _ _
    cases as with
    | cons a as=>simp [eqFs] at e
    | nil=>cases bs with
      | cons b bs=>simp [eqFs] at e
      | nil=>simp only [eqFs,Option.some.injEq] at e;subst e;rfl
  | cons f fs ih =>
    intro k as bs r xs ys e hx hy sx sy
    cases as with
    | nil=>simp [eqFs] at e
    | cons a as=>cases bs with
      | nil=>simp [eqFs] at e
      | cons b bs =>
        simp only [eqFs] at e
        split at e
        · rename_i hoff
          split at e
          · rename_i hname
            have one : ∀ (v u : Value) (q : Bool) (dd : TypeDesc), descOf tt f.type = some dd → aggOf dd = false → xs.getD k undef = v → ys.getD k undef = u → (Op.equalIn (d + 1) f.type v u).run P w = .ok q w → ∀ r', eqFs tt (k + 1) fs as bs = some r' →
                (Op.eqFields (d+1) xs ys (f::fs)).run P w=.ok (q&&r') w:=by
              intro v u q dd hdd hag e1 e2 hrun r' hr'
              have rest:=ih (k+1) as bs r' xs ys hr' (fun i c hc=>by have:=hx (i+1) c (by simpa using hc);rwa [show k+1+i=k+(i+1) by omega]) (fun i c hc=>by have:=hy (i+1) c (by simpa using hc);rwa [show k+1+i=k+(i+1) by omega]) (by simp at sx;omega) (by simp at sy;omega)
              obtain ⟨td,ht1,ht2⟩:∃ td,tt f.type=some td∧td.desc=dd:=by
                simp only [descOf] at hdd
                obtain ⟨td,h1,h2⟩:=Option.bind_eq_some_iff.1 hdd
                exact ⟨td,h1,by simpa using h2⟩
              have tdk:=hT _ _ ht1
              have hagg:td.agg=false:=by rw [tdk.agg,ht2];exact hag
              have hpart:∀ (zs:Array Value) (z:Value),k<zs.size→zs.getD k undef=z→(part f.type zs f.offset).run P w=.ok z w:=by
                intro zs z hlt hz
                have hg:zs[k]? = some z:=by rw [Array.getElem?_eq_getElem hlt,← hz];simp [Array.getD,hlt]
                simp [part,run_isAgg' tdk,hagg,hoff,hg]
              have p1:=hpart xs v (by simp at sx;omega) e1
              have p2:=hpart ys u (by simp at sy;omega) e2
              simp only [Op.eqFields,if_pos hname,Sem.run_bind,p1,p2,hrun,Result.andThen_ok]
              cases q with
              | false=>simp
              | true=>simpa using rest
            have ax:=hx 0 a rfl
            have ay:=hy 0 b rfl
            rw [Nat.add_zero] at ax ay
            split at e
            · rename_i k0 fr1 k1 x fr2 k2 y hdd
              split at e
              · rename_i hk
                subst hk
                obtain ⟨r', h1,rfl⟩:=Option.map_eq_some_iff.1 e
                exact one _ _ _ _ hdd rfl (toValue_rel ax rfl) (toValue_rel ay rfl) (run_equalIn_int w d f.type k1 k0 x y (descOf_spec hT hdd)) r' h1
              · cases e
            · rename_i fr1 x fr2 y hdd
              obtain ⟨r', h1,rfl⟩:=Option.map_eq_some_iff.1 e
              exact one _ _ _ _ hdd rfl (toValue_rel ax rfl) (toValue_rel ay rfl) (run_equalIn_bool' w d f.type x y (descOf_spec hT hdd)) r' h1
            · rename_i fr1 x fr2 y hdd
              obtain ⟨r', h1,rfl⟩:=Option.map_eq_some_iff.1 e
              exact one _ _ _ _ hdd rfl (toValue_rel ax rfl) (toValue_rel ay rfl) (run_equalIn_string w d f.type x y (descOf_spec hT hdd)) r' h1
            · cases e
          · cases e
        · cases e
theorem op_cmp [DF] (hT:TTok P tt) (s:SR N w0 η0 h0 we η st a w) {op:BinOp} {t t':TypeId} {x y:Operand} (ho:o.op=.binOp op t x y t') {b:Bool} (hb:cmpSp P tt st.heap op t (st.ev x) (st.ev y)=some (true,b))
  (hk:K (.t true .bool b) st=some r) (hp:Post N w0 η0 h0 we K r o a next):o.wp P a w next Q:=by
 unfold cmpSp at hb
 split at hb
 ·rename_i fr e l hx hy
  split at hb
  ·rename_i p he
   obtain ⟨b', h1,h2⟩:=Option.map_eq_some_iff.1 hb
   simp only [Prod.mk.injEq,decide_eq_true_eq] at h2
   obtain ⟨h2,rfl⟩:=h2
   exact op_eqNil hT s ho he hx hy h2 h1 hk hp
  ·cases hb
 ·rename_i as bs hx hy
  have hx':st.ev x=.agg as:=by
   cases hv:st.ev x with
   | agg cs=>rw [hv] at hx;simpa [view1] using hx
   | all id sz=>rw [hv] at hx;simp only [view1] at hx;split at hx<;>(try split at hx)<;>cases hx
   | arr id sz lo n=>rw [hv] at hx;simp only [view1] at hx;split at hx<;>(try split at hx)<;>cases hx
   | pre id sz n=>rw [hv] at hx;simp only [view1] at hx;split at hx<;>(try split at hx)<;>cases hx
   | _=>rw [hv] at hx;simp [view1] at hx
  split at hb
  ·rename_i fs hd
   split at hb
   ·cases hb
   ·rename_i hg
    simp only [Bool.or_eq_true,not_or,Bool.not_eq_true] at hg
    have hu:=descOf_spec hT hd
    have hfo:P.fieldsOf t=fs:=by simp only [Program.fieldsOf,hu]
    have ax:=s.ev x
    have ay:=s.ev y
    rw [hx'] at ax
    rw [hy] at ay
    generalize ex:a.eval x=u at ax
    generalize ey:a.eval y=v at ay
    cases ax with
    | @agg _ vs sx cx =>
     cases ay with
     | @agg _ us sy cy =>
      have fin:∀ c:Bool,eqFs tt 0 fs.toList as bs=some c→(Op.equalIn 10000 t (.agg vs) (.agg us)).run P w=.ok c w:=by
       intro c hc
       rw [show (10000:Nat)=9999+1 from rfl,run_equalIn_agg w 9999 t vs us (by rw [hfo];exact hu) hg.2,hfo]
       exact eqFs_run hT 9998 fs.toList 0 as bs c vs us hc (fun i c hi=>by rw [Nat.zero_add];exact cx i c hi) (fun i c hi=>by rw [Nat.zero_add];exact cy i c hi) (by omega) (by omega)
      have hgd:=fun op=>run_eqGuard_agg (P:=P) w op t x y vs us hg.1
      have done:∀ z:Bool,(binOp op t (.agg vs) (.agg us)).run P w=.ok (.bool z) w→z=b→o.wp P a w next Q:=by
       intro z hz hzb
       subst hzb
       refine wp_value (w':=w) ?_ (hp _ _ _ _ _ hk s (.t (v:=.bool z) rfl (by simp [Lay])))
       simp only [execOp,ho,ex,ey,Sem.run_bind,hgd,hz,Result.andThen_ok,Sem.run_pure]
      split at hb
      ·rename_i c hc
       simp only [Option.some.injEq,Prod.mk.injEq,true_and] at hb
       exact done c (by rw [run_eql_struct,fin c hc];rfl) hb
      ·rename_i c hc
       simp only [Option.some.injEq,Prod.mk.injEq,true_and] at hb
       exact done (!c) (by rw [run_neq_struct,fin c hc];rfl) hb
      ·cases hb
  ·cases hb
 ·cases hb

theorem op_slice0 [DF] (hT:TTok P tt) (s:SR N w0 η0 h0 we η st a w) {t:TypeId} {x hi m:Operand} (ho:o.op=.slice t x none (some hi) (some m)) {E:TypeId} {d:TD} (he:elemOf' tt t=some (E,d)) {n:Nat} (hn:(st.ev x).len st.heap=some n)
  (hok:lenOk (.slice E) (st.ev x)=true) (h1:(st.ev hi).asInt=some 0) (h2:(st.ev m).asInt=some 0) {e:Ty}
  (hk:K (.all st.heap.length e.cells) (st.new (.rows E true e []))=some r) (hp:Post N w0 η0 h0 we K r o a next):o.wp P a w next Q:=by
 obtain ⟨hu,td⟩:=elemOf_spec hT he
 obtain ⟨k1,e1⟩:=asInt_rel (s.ev hi) h1
 obtain ⟨k2,e2⟩:=asInt_rel (s.ev m) h2
 rcases len_rel s.inv (s.ev x) hn with ⟨b,fr,q1,q2,q3⟩ | ⟨hne,A,cap,q2,_⟩
 ·rw [q1] at hok;simp [lenOk] at hok
 ·obtain ⟨η', s', ra,_⟩:=s.adoptRows (E:=E) (f:=true) (e:=e) (l:=[]) (v:=.slice A 0 0) (xs:=[]) (.inr ⟨⟨A,rfl⟩,rfl,rfl⟩) (fun i x hx=>by simp at hx) (fun g hg=>by cases A<;>simp [blk] at hg)
  refine wp_value (w':=w) ?_ (hp _ _ _ _ _ hk s' ra)
  simp [execOp,ho,q2,e1,e2,Instr.sliceAt,run_underlying hu,Instr.slice,Instr.sliceBounds,Instr.sliceBound,asIntOf,run_sizeOf' td]

theorem op_slice3 [DF] (hT:TTok P tt) (s:SR N w0 η0 h0 we η st a w) {t:TypeId} {x hi m:Operand} (ho:o.op=.slice t x none (some hi) (some m)) {E:TypeId} {d:TD} (he:elemOf' tt t=some (E,d)) {n:Nat} (hn:(st.ev x).len st.heap=some n)
  {h mm:Int} (e1:(st.ev hi).asInt=some h) (e2:(st.ev m).asInt=some mm) (b1:0≤h) (b2:h≤mm) (b3:mm≤(n:Int)) {id sz q:Nat}
  (hx:(∃ k,st.ev x=.arr id sz q k)∨(st.ev x=.all id sz∧q=0))
  (hk:K (.arr id sz q h.toNat) st=some r) (hp:Post N w0 η0 h0 we K r o a next):o.wp P a w next Q:=by
 obtain ⟨hu,td⟩:=elemOf_spec hT he
 obtain ⟨k1,f1⟩:=asInt_rel (s.ev hi) e1
 obtain ⟨k2,f2⟩:=asInt_rel (s.ev m) e2
 have a0:∀ ad:Addr,ad.add 0=ad:=fun ad=>by unfold Addr.add;simp
 have hxv:=s.ev x
 have key:∃ A cap,a.eval x=.slice A n cap∧n≤cap∧AVR η st.heap.length w (.arr id sz q h.toNat) (.slice A h.toNat mm.toNat):=by
  rcases hx with ⟨k,hx⟩ | ⟨hx,rfl⟩
  ·rw [hx] at hxv hn
   simp only [AV.len,Option.some.injEq] at hn
   subst hn
   generalize a.eval x=u at hxv
   cases hxv with
   | @arr _ _ _ _ cap A hid hk' hlo hA=>exact ⟨A,cap,rfl,hk', .arr hid (by omega) (by omega) (fun hp=>hA (by omega))⟩
  ·rw [hx] at hxv hn
   generalize a.eval x=u at hxv
   cases hxv with
   | all hid =>
    simp only [AV.len] at hn
    split at hn
    ·rename_i E' fr e xs hob
     split at hn
     ·simp only [Option.some.injEq] at hn
      obtain ⟨g1,g2⟩:=all_rel s.inv hob
      rcases g2 with ⟨⟨B,g2⟩,rfl⟩ | ⟨cap,g2,g3⟩
      ·refine ⟨B,0,by rw [g2,← hn];rfl,by simp at hn;omega,?_⟩
       have hn0:n=0:=by simpa using hn.symm
       subst hn0
       exact .arr hid (by omega) (by rw [g1];simp;omega) (fun hp=>by omega)
      ·exact ⟨_,cap,by rw [g2,hn],by omega,.arr hid (by omega) (by rw [g1];omega) (fun hp=>by rw [Nat.zero_mul])⟩
     ·cases hn
    ·rename_i E' Es e xs hob
     split at hn
     ·simp only [Option.some.injEq] at hn
      obtain ⟨g1,g2⟩:=all_relD s.inv hob
      rcases g2 with ⟨⟨B,g2⟩,rfl⟩ | ⟨cap,g2,g3⟩
      ·refine ⟨B,0,by rw [g2,← hn];rfl,by simp at hn;omega,?_⟩
       have hn0:n=0:=by simpa using hn.symm
       subst hn0
       exact .arr hid (by omega) (by rw [g1];simp;omega) (fun hp=>by omega)
      ·exact ⟨_,cap,by rw [g2,hn],by omega,.arr hid (by omega) (by rw [g1];omega) (fun hp=>by rw [Nat.zero_mul])⟩
     ·cases hn
    ·cases hn
 obtain ⟨A,cap,ex,hc,rv⟩:=key
 refine wp_value (w':=w) ?_ (hp _ _ _ _ _ hk s rv)
 have c1:0≤mm:=by omega
 have c2:mm≤(cap:Int):=by omega
 have c3:h≤((mm.toNat:Nat):Int):=by omega
 have hA:(if mm.toNat=0 then A else A.map (·.add (0*d.size)))=A:=by
  rw [Nat.zero_mul]
  split
  ·rfl
  ·cases A<;>simp [a0]
 simp [execOp,ho,ex,f1,f2,Instr.sliceAt,run_underlying hu,Instr.slice,Instr.sliceBounds,Instr.sliceBound,asIntOf,c1,c2,b1,c3,run_sizeOf' td]
 have hq:¬ max mm 0<h:=by omega
 cases A with
 | none=>simp [hq]
 | some ad=>simp [a0,hq]

theorem op_slice4 [DF] (hT:TTok P tt) (s:SR N w0 η0 h0 we η st a w) {t:TypeId} {x lo hi m:Operand} (ho:o.op=.slice t x (some lo) (some hi) (some m)) {E:TypeId} {d:TD} (he:elemOf' tt t=some (E,d)) {n:Nat} (hn:(st.ev x).len st.heap=some n)
    {l h mm:Int} (e0:(st.ev lo).asInt=some l) (e1:(st.ev hi).asInt=some h) (e2:(st.ev m).asInt=some mm) (b0:0≤l) (b1:l≤h) (b2:h≤mm) (b3:mm≤(n:Int)) {id sz:Nat} (hsz:sz=d.size)
    (hx:st.ev x=.all id sz)
    (hk:K (.arr id sz l.toNat (h.toNat - l.toNat)) st=some r) (hp:Post N w0 η0 h0 we K r o a next):o.wp P a w next Q:=by
  obtain ⟨hu,td⟩:=elemOf_spec hT he
  obtain ⟨k0,f0⟩:=asInt_rel (s.ev lo) e0
  obtain ⟨k1,f1⟩:=asInt_rel (s.ev hi) e1
  obtain ⟨k2,f2⟩:=asInt_rel (s.ev m) e2
  have hn':=hn
  rw [hx] at hn'
  simp only [AV.len] at hn'
  have hob2:∃ e xs,RowsAt st.heap id e xs∧n=xs.length:=by
    split at hn'
    · rename_i E' fr e xs hob
      split at hn'
      · exact ⟨e,xs,.inl ⟨_,_,hob⟩,(Option.some.inj hn').symm⟩
      · cases hn'
    · rename_i E' Es e xs hob
      split at hn'
      · exact ⟨e,xs,.inr ⟨_,_,hob⟩,(Option.some.inj hn').symm⟩
      · cases hn'
    · cases hn'
  obtain ⟨e,xs,hob,hnl⟩:=hob2
  · · have hn' := hnl.symm
      obtain ⟨hid,A,cap,ex,hnc,hnm,hv,hA,hln⟩:=full_rel s.inv (s.ev x) hn hob (.inl hx)
      have rv:AVR η st.heap.length w (.arr id sz l.toNat (h.toNat - l.toNat)) (.slice (if mm.toNat=l.toNat then A else A.map (·.add (l.toNat*d.size))) (h.toNat - l.toNat) (mm.toNat - l.toNat)):=by
        refine .arr hid (by omega) (by omega) (fun hp=>?_)
        rw [if_neg (by omega),hA (by omega)]
        simp only [Option.map_some]
        rw [addr_at,Nat.zero_add,hsz]
      refine wp_value (w':=w) ?_ (hp _ _ _ _ _ hk s rv)
      have c1:0≤mm:=by omega
      have c2:mm≤(cap:Int):=by omega
      have c3:h≤((mm.toNat:Nat):Int):=by omega
      have c4:0≤h:=by omega
      have c5:l≤((h.toNat:Nat):Int):=by omega
      simp [execOp,ho,ex,f0,f1,f2,Instr.sliceAt,run_underlying hu,Instr.slice,Instr.sliceBounds,Instr.sliceBound,asIntOf,c1,c2,c3,c4,b0,c5,run_sizeOf' td]
      have q1:h≤max mm 0:=by omega
      have q2:l≤max h 0:=by omega
      cases A<;>simp [q1,q2]

theorem op_sliceT [DF] (hT:TTok P tt) (s:SR N w0 η0 h0 we η st a w) {t:TypeId} {x lo hi m:Operand} (ho:o.op=.slice t x (some lo) (some hi) (some m)) {E:TypeId} {d:TD} (he:elemOf' tt t=some (E,d))
  {l h mm:Int} (e0:(st.ev lo).asInt=some l) (e1:(st.ev hi).asInt=some h) (e2:(st.ev m).asInt=some mm) {fr:Bool} {e:Ty} {xs:List e.den} (b0:0≤l) (b1:l≤h) (b2:h≤mm) (b3:mm≤(xs.length:Int)) (hsz:e.cells=d.size)
  (hx:st.ev x=.t fr (.sl e) xs)
  (hk:K (.t fr (.sl e) ((xs.take h.toNat).drop l.toNat)) st=some r) (hp:Post N w0 η0 h0 we K r o a next):o.wp P a w next Q:=by
 obtain ⟨hu,td⟩:=elemOf_spec hT he
 obtain ⟨k0,f0⟩:=asInt_rel (s.ev lo) e0
 obtain ⟨k1,f1⟩:=asInt_rel (s.ev hi) e1
 obtain ⟨k2,f2⟩:=asInt_rel (s.ev m) e2
 have hxv:=s.ev x
 rw [hx] at hxv
 generalize hue:a.eval x=u at hxv
 cases hxv with
 | t hc hlay =>
  obtain ⟨A,cap,c1,c2,c3⟩:=hlay
  simp only [if_true,Option.some.injEq] at c1
  have hlen:((xs.take h.toNat).drop l.toNat).length=h.toNat - l.toNat:=by simp;omega
  have rv:AVR η st.heap.length w (.t fr (.sl e) ((xs.take h.toNat).drop l.toNat)) (.slice (if mm.toNat=l.toNat then A else A.map (·.add (l.toNat*d.size))) (h.toNat - l.toNat) (mm.toNat - l.toNat)):=by
   refine .t rfl ⟨_,mm.toNat - l.toNat,by simp only [if_true];rw [hlen],by rw [hlen];omega,?_⟩
   by_cases hz:h.toNat - l.toNat=0
   ·exact .inl (List.eq_nil_of_length_eq_zero (by omega))
   ·right
    rcases c3 with rfl | ⟨ad,rfl,hzz,c4⟩
    ·simp at b3;omega
    ·have hne:mm.toNat ≠ l.toNat:=by omega
     refine ⟨ad.add (l.toNat*d.size),by simp [hne],by rw [addr_block];exact hzz,fun i y hy=>?_⟩
     rw [List.getElem?_drop,List.getElem?_take] at hy
     split at hy
     ·refine Lay.congr e y _ _ (fun j _=>?_) (c4 _ y hy)
      rw [addr_add,hsz,Nat.add_mul,Nat.add_assoc]
     ·cases hy
  refine wp_value (w':=w) ?_ (hp _ _ _ _ _ hk s rv)
  have q0:0≤mm:=by omega
  have q2:mm≤(cap:Int):=by omega
  have q3:h≤((mm.toNat:Nat):Int):=by omega
  have q4:0≤h:=by omega
  have q5:l≤((h.toNat:Nat):Int):=by omega
  simp [execOp,ho,hue,c1,f0,f1,f2,Instr.sliceAt,run_underlying hu,Instr.slice,Instr.sliceBounds,Instr.sliceBound,asIntOf,q0,q2,q3,q4,b0,q5,run_sizeOf' td]
  have q6:h≤max mm 0:=by omega
  have q7:l≤max h 0:=by omega
  cases A<;>simp [q6,q7]

theorem op_bytesToString [DF] (hT:TTok P tt) (s:SR N w0 η0 h0 we η st a w) {t u:TypeId} {x:Operand} (ho:o.op=.convert t u x) {fr:Bool} {l:List Int} (hx:view1 st.heap (st.ev x)=.t fr (.sl (.int .u8)) l) {E:TypeId} (ht:descOf tt t=some (.slice E)) (hE:descOf tt E=some (.int .u8)) (hu:descOf tt u=some .string)
  (hk:K (.t true .str (strOfNums l)) st=some r) (hp:Post N w0 η0 h0 we K r o a next):o.wp P a w next Q:=by
 obtain ⟨A,cap,news,e1,e2,hr⟩:=view1_reads s.inv (s.ev x) hx
 have h1:=descOf_spec hT ht
 have h2:=descOf_spec hT hE
 have h3:=descOf_spec hT hu
 have hrun:(convert t u (a.eval x)).run P w=.ok (.string (strOfNums l)) w:=by
  rw [e1]
  cases A with
  | none =>
   obtain rfl:=hr.some_ rfl
   rw [run_convert_bytes_nil (P:=P) w t E h1 h2 _ _ u h3]
   rfl
  | some ad =>
   by_cases hl:l=[]
   ·subst hl
    show (convert t u (.slice (some ad) 0 cap)).run P w=_
    rw [run_convert_bytes_string w t u E (some ad) 0 cap h1 h2 h3]
    simp [Conv.bytesToString,loadCells,loadCellsFrom,strOfNums]
    rfl
   ·have hc : ∀ i, i < l.length → w.cell? (ad.add i) = some (.int .u8 (l.getD i 0)) := by
     intro i hi
     have hl2:=hr.lay i _ (List.getElem?_eq_getElem hi)
     simp only [Lay,Ty.cells,Nat.mul_one,Nat.add_zero] at hl2
     rw [hr.at_ ad rfl i _ hl2]
     simp [List.getD_eq_getElem?_getD,hi]
    have hsp:ad.spot=none:=by
     have:=hc 0 (by cases l<;>simp at hl ⊢)
     simp only [Addr.add,if_true,World.cell?] at this
     split at this
     ·split at this
      ·cases this
      ·rename_i hsp;simpa using hsp
     ·cases this
    obtain ⟨b,off,sp⟩:=ad
    simp only at hsp
    subst hsp
    exact run_convert_bytes_arg (P:=P) w t E h1 h2 b off l.length cap l rfl (fun i hi=>by rw [← addr_at];exact hc i hi) u h3
 exact wp_value (w':=w) (by simp [execOp,ho,hrun]) (hp _ _ _ _ _ hk s (.t (v:=.string (strOfNums l)) rfl (by simp [Lay])))

theorem op_minmax [DF] (s:SR N w0 η0 h0 we η st a w) {c:Call} (ho:o.op=.call c) {x y:Operand} (hx:c.args.toList=[x,y]) {u v z:Value} (h1:(st.ev x).toValue=some u) (h2:(st.ev y).toValue=some v)
  (hz:(c.callee=.builtin .max∧pureSem P (Builtin.max_ c.argTypes o.type #[u,v])=some z)∨(c.callee=.builtin .min∧pureSem P (Builtin.min_ c.argTypes o.type #[u,v])=some z))
  (hk:K (.ofValue z) st=some r) (hp:Post N w0 η0 h0 we K r o a next):o.wp P a w next Q:=by
 have e1:=toValue_rel (s.ev x) h1
 have e2:=toValue_rel (s.ev y) h2
 have ea:c.args=#[x,y]:=by rw [← Array.toArray_toList (xs:=c.args),hx]
 refine wp_value (w':=w) ?_ (hp _ _ _ _ _ hk s (ofValue_rel z))
 rcases hz with ⟨hc,hz⟩ | ⟨hc,hz⟩
 ·have hrun:=pureSem_run P _ z hz w
  simp [execOp,ho,resolve,hc,ea,invoke,builtin,e1,e2,hrun]
 ·have hrun:=pureSem_run P _ z hz w
  simp [execOp,ho,resolve,hc,ea,invoke,builtin,e1,e2,hrun]

theorem Inv.recell {H:List AObj} (I:Inv N w0 η H w) {b j:Nat} {cs:List AV} (hb:H[b]? = some (.box cs)) {a:AV} (ha:∀ c E f,w.heap[η.ι b]? = some (.cells c E f)→AVR η H.length w a (c.getD j undef)) :
  Inv N w0 η (H.set b (.box (cs.set j a))) w:=by
 have hget:∀ i y,(H.set b (.box (cs.set j a)))[i]? = some y→(i=b∧y=.box (cs.set j a))∨(i ≠ b∧H[i]? = some y):=by
  intro i y hy
  rcases set_some hy with ⟨q1,_,q2⟩ | ⟨hne,hy⟩
  ·exact .inl ⟨q1,q2⟩
  ·exact .inr ⟨hne,hy⟩
 refine ⟨I.nlt,I.fr,I.zlt,I.zsub,I.znew,I.hvs,fun i y hy=>?_,fun i y hy hm=>?_,fun i k y z hy hz my mz he=>?_,fun k q hk=>?_,I.nvs⟩
 ·rw [List.length_set]
  rcases hget i y hy with ⟨rfl,rfl⟩ | ⟨hne,hy⟩
  ·obtain ⟨g1,c,E,g2,g3,g4⟩:=I.obj i _ hb
   refine ⟨g1,c,E,g2,by simpa using g3,fun k x hk=>?_⟩
   rw [List.getElem?_set] at hk
   split at hk
   ·rename_i hjk
    subst hjk
    split at hk
    ·rename_i hlt
     obtain rfl:=Option.some.inj hk
     exact ⟨ha c E _ g2,(g4 j _ (List.getElem?_eq_getElem hlt)).2⟩
    ·cases hk
   ·exact g4 k x hk
  ·exact I.obj i y hy
 ·rcases hget i y hy with ⟨rfl,rfl⟩ | ⟨hne,hy⟩
  ·exact I.own i _ hb trivial
  ·exact I.own i y hy hm
 ·rcases hget i y hy with ⟨rfl,rfl⟩ | ⟨hne,hy1⟩<;>rcases hget k z hz with ⟨e2,rfl⟩ | ⟨hne', hz1⟩
  ·exact e2.symm
  ·exact I.inj i k _ z hb hz1 trivial mz he
  ·subst e2;exact I.inj i k y _ hy1 hb my trivial he
  ·exact I.inj i k y z hy1 hz1 my mz he
 ·obtain ⟨d1,d2,d3,d4⟩:=I.dep k q hk
  refine ⟨d1,d2,d3,fun i y hy hm=>?_⟩
  rcases hget i y hy with ⟨rfl,rfl⟩ | ⟨hne,hy⟩
  ·exact d4 i _ hb trivial
  ·exact d4 i y hy hm
def Callable (P : Program) (f : FuncId) : Prop := ∃ fn, P.funcs[f]? = some fn ∧ (fn.name == "runtime.NumGoroutine") = false ∧ fn.body.isNone = false

def MContract (P:Program) (f:FuncId) (sm:Summ):Prop :=
 ∀ args H r H' Kf,sm args H=some (r,H', Kf,true)→∀ N w0 η w (vs:Array Value),Inv N w0 η H w→vs.size=args.length→(∀ i c,args[i]? = some c→AVR η H.length w c (vs.getD i undef)) →
  Calls P f vs w fun e w'=>∃ v η', e=.returned v∧Inv N w0 η' H' w'∧Ext Kf.contains η H.length w η' H'.length w'∧AVR η' H'.length w' r v

def TabOk (P:Program) (S:Tab):Prop:=∀ f s,S f=some s→MContract P f s∧Callable P f

theorem op_call [DF] (hS:TabOk P S) (s:SR N w0 η0 h0 we η st a w) {c:Call} (ho:o.op=.call c) {fx:Operand} (hc:c.callee=.value fx) {g:FuncId} {caps:List AV} (hf:st.ev fx=.fn g caps) {sm:Summ} (hg:S g=some sm)
  {rv:AV} {H':List AObj} {Kf:List Nat} (hsm:sm (c.args.toList.map st.ev++caps) st.heap=some (rv,H', Kf,true))
  (hk:(Kf=[]∧K rv { st with heap:=H' }=some r)∨(K rv { (st.kill Kf) with heap:=H' }=some r)) (hp:Post N w0 η0 h0 we K r o a next):o.wp P a w next Q:=by
 obtain ⟨hm,fn,f1,f2,f3⟩:=hS g sm hg
 have hfv:=s.ev fx
 rw [hf] at hfv
 generalize hfe:a.eval fx=fv at hfv
 cases hfv with
 | @fn _ _ cvs hsz hcs =>
  have hcall:=hm _ _ _ _ _ hsm N w0 η w (c.args.map a.eval++cvs) s.inv (by simp [hsz]) (fun i x hx=>by
   by_cases hlt:i<(c.args.toList.map st.ev).length
   ·rw [List.getElem?_append_left hlt] at hx
    obtain ⟨y,hy,rfl⟩:=getElem?_map_some hx
    have hlt':i<(c.args.map a.eval).size:=by simpa using hlt
    have e:(c.args.map a.eval++cvs).getD i undef=a.eval y:=getD_some (by
     rw [Array.getElem?_append_left hlt', Array.getElem?_map,← Array.getElem?_toList,hy];rfl)
    rw [e];exact s.ev y
   ·rw [List.getElem?_append_right (by omega)] at hx
    have hsz1:(c.args.map a.eval).size=(c.args.toList.map st.ev).length:=by simp
    have e:(c.args.map a.eval++cvs).getD i undef=cvs.getD (i - (c.args.toList.map st.ev).length) undef:=by
     rw [Array.getD_eq_getD_getElem?,Array.getElem?_append_right (by omega),hsz1,← Array.getD_eq_getD_getElem?]
    rw [e];exact hcs _ x hx)
  have hrun:(execOp a.eval o).run P w=.ok (.enter g (c.args.map a.eval++cvs)) w:=by
   have hbody:¬ (fn.body=none):=by cases h:fn.body<;>simp [h] at f3 ⊢
   simp only [execOp,ho,Sem.run_bind,resolve,hc,hfe,Deferred.ofValue,invoke,callFunc]
   have hname : ¬ fn.name = "runtime.NumGoroutine" := by simpa using f2
   simp [f1,hname,hbody]
  unfold Oper.wp
  rw [hrun,Oper.upon_enter]
  refine hcall.mono ?_
  rintro e w' ⟨v,η', rfl,I', x,rr⟩
  rcases hk with ⟨rfl,hk⟩ | hk
  ·exact hp _ _ η' w' v hk ⟨I', s.ext.trans x (fun id _ hk=>⟨hk,rfl⟩),s.sl.ext x,s.base⟩ rr
  ·exact hp _ _ η' w' v hk ⟨I', s.ext.trans x (fun id hi hk=>killed_spec (by rw [s.base];exact hi) hk),s.sl.kill x,s.base⟩ rr
end
end Go.Proofs.Ytccelbeahdcooaa.Eng
