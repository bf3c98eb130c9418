/- The engine, part 15: regions, loops, functions. -/
import Derived.Test.YtccelbeahdcooaaE14
import Derived.Scope
namespace Go.Proofs.Ytccelbeahdcooaa.Eng
open Go Go.RowKit
set_option linter.unusedSimpArgs false
set_option linter.unusedVariables false

section
variable {P:Program} {N:Nat→Prop} {w0:World} {η0:Env} {h0:Nat} {we:World} {R:Type}
variable {η:Env} {st:St} {a:Act} {w:World} {o:Oper} {next:Act→World→Prop} {Q:Exit→Act→World→Prop} {r:R} {tt:TT} {S:Tab}

theorem ev_slot [DF] (s:SR N w0 η0 h0 we η st a w) (d:Nat):AVR η st.heap.length w (st.slots.getD d .junk) (a.tmps.getD d undef):=s.ev (.tmp d)

theorem yielded_of {ops:Array Oper} {j d:Nat} {tmps:Array Value} (hj:(ops[j]?).bind (·.dst)=some d) {b:Bool} (h:tmps.getD d undef=.bool b):yielded ops tmps j=some b:=by
 simp only [yielded,hj,Option.bind_some]
 cases hd:tmps[d]? with
 | none=>rw [Array.getD_eq_getD_getElem?,hd] at h;simp [undef] at h
 | some v=>rw [Array.getD_eq_getD_getElem?,hd] at h;simp at h;simp [h]

theorem yielded_none {ops:Array Oper} {j d:Nat} {tmps:Array Value} (hj:(ops[j]?).bind (·.dst)=some d) {vs:Array Value} (h:tmps.getD d undef=.tuple vs):yielded ops tmps j=none:=by
 simp only [yielded,hj,Option.bind_some]
 cases hd:tmps[d]? with
 | none=>rfl
 | some v=>rw [Array.getD_eq_getD_getElem?,hd] at h;simp at h;simp [h]

theorem execOps_sound [DF] (hT:TTok P tt) (hS:TabOk P S) (ops:Array Oper):∀ (l:List Oper) (st:St) (K:St→Option R) (η:Env) (a:Act) (w:World),SR N w0 η0 h0 we η st a w→execOps P tt S ops l st K=some r →
  (∀ st' η' a' w', K st'=some r→SR N w0 η0 h0 we η' st' a' w'→Q .normal a' w')→wpList P ops Q l a w:=by
 intro l
 induction l with
 | nil=>intro st K η a w s h hq;simp only [execOps] at h;exact hq _ _ _ _ h s
 | cons o rest ih =>
  intro st K η a w s h hq
  unfold wpList
  simp only [execOps] at h
  have run:∀ st1:St,SR N w0 η0 h0 we η st1 a w→evalOp P tt S st1 o (fun v st'=>execOps P tt S ops rest (st'.put o.dst v) K)=some r→o.wp P a w (wpList P ops Q rest) Q:=by
   intro st1 s1 h1
   refine evalOp_sound hT hS s1 h1 ?_
   intro v st' η' w' x hk s' rx
   exact ih _ K η' _ w' (s'.put o.dst rx) hk hq
  have skip:∀ st1:St,SR N w0 η0 h0 we η st1 a w→execOps P tt S ops rest (st1.put o.dst (.raw undef)) K=some r→wpList P ops Q rest (a.put o.dst undef) w:=by
   intro st1 s1 h1
   exact ih _ K η _ w (s1.put o.dst (.raw _)) h1 hq
  split at h
  ·rename_i hg
   have:Region.wanted o (yielded ops a.tmps)=true:=by simp [Region.wanted,hg]
   rw [if_pos this]
   exact .inl (run st s h)
  ·rename_i j want hg
   split at h
   ·cases h
   ·rename_i d hd
    split at h
    ·rename_i b hb
     have hv:a.tmps.getD d undef=.bool b:=asBool_rel (a:=.t true .bool b) (by have:=ev_slot s d;rwa [hb] at this) rfl
     have hy:=yielded_of hd hv
     have hw:Region.wanted o (yielded ops a.tmps)=(b==want):=by simp [Region.wanted,hg,hy]
     rw [hw]
     have s1:∀ c:Bool,b=c→SR N w0 η0 h0 we η (st.put (some d) (.t true .bool c)) a w:=fun c hc=>s.refine' d (by rw [hv,hc];exact .t rfl (by simp [Lay]))
     rcases cond_some h with ⟨rfl,h⟩ | ⟨rfl,h⟩
     ·cases want with
      | true=>exact .inl (run _ (s1 true rfl) h)
      | false=>exact skip _ (s1 true rfl) h
     ·cases want with
      | true=>exact skip _ (s1 false rfl) h
      | false=>exact .inl (run _ (s1 false rfl) h)
    ·rename_i vs hb
     have hr:=ev_slot s d
     rw [hb] at hr
     generalize hgv:a.tmps.getD d undef=u at hr
     cases hr with
     | raw =>
      have hy:=yielded_none hd hgv
      have hw:Region.wanted o (yielded ops a.tmps)=false:=by simp [Region.wanted,hg,hy]
      rw [hw]
      exact skip st s h
    ·cases h
end
end Go.Proofs.Ytccelbeahdcooaa.Eng
