/- The engine, part 46: ends of functions that turn what they are handed: prefixes become all rows, killed names told alike. -/
import Derived.Test.YtoddiofedjnapaaE38
namespace Go.Proofs.Ytoddiofedjnapaa.Eng
open Go Go.RowKit
set_option linter.unusedSimpArgs false
set_option linter.unusedVariables false

section
variable {P : Program} {N : Nat → Prop} {w0 : World} {η : Env} {w : World} {tt : TT} {S : Tab} {QF : FuncId → Bool}
/-- An object keeps its first rows alone; other values that name it go. -/
theorem Inv.cutAt {H : List AObj} (I : Inv N w0 η H w) {id : Nat} {E : TypeId} {fr : Bool} {e : Ty} {l : List e.den} (ho : H[id]? = some (.rows E fr e l)) (n : Nat) :
    Inv N w0 (η.upd id (η.ι id) (cutV (η.hv id) n) (l.take n).length) ((H.map (AObj.kill (List.contains [id]))).set id (.rows E fr e (l.take n))) w ∧
    Ext (List.contains [id]) η H.length w (η.upd id (η.ι id) (cutV (η.hv id) n) (l.take n).length) H.length w ∧
    ∀ v sz, AVR η H.length w (.pre id sz n) v → AVR (η.upd id (η.ι id) (cutV (η.hv id) n) (l.take n).length) H.length w (.all id sz) v := by
  have hid : id < H.length := (List.getElem?_eq_some_iff.1 ho).1
  generalize hη : η.upd id (η.ι id) (cutV (η.hv id) n) (l.take n).length = η'
  have hι : ∀ i, η'.ι i = η.ι i := fun i => by rw [← hη]; simp only [Env.upd]; split <;> simp_all
  have hhv : ∀ i, i ≠ id → η'.hv i = η.hv i := fun i hi => by rw [← hη]; simp [Env.upd, hi]
  have hln : ∀ i, i ≠ id → η'.ln i = η.ln i := fun i hi => by rw [← hη]; simp [Env.upd, hi]
  have hv0 : η'.hv id = cutV (η.hv id) n := by rw [← hη]; simp [Env.upd]
  have hl0 : η'.ln id = (l.take n).length := by rw [← hη]; simp [Env.upd]
  have hZ : η'.Z = η.Z := by rw [← hη]; rfl
  have x : Ext (List.contains [id]) η H.length w η' H.length w := by
    refine ⟨fun i hi hk => ?_, fun f b h => by rw [hZ]; exact h, fun _ _ _ => rfl, fun b h => .inl (by rw [hZ] at h; exact h)⟩
    have : i ≠ id := by simpa using hk
    exact ⟨hi, hι i, hhv i this, hln i this⟩
  have hget : ∀ i y, ((H.map (AObj.kill (List.contains [id]))).set id (.rows E fr e (l.take n)))[i]? = some y → (i = id ∧ y = .rows E fr e (l.take n)) ∨ (i ≠ id ∧ ∃ y0, H[i]? = some y0 ∧ y = y0.kill (List.contains [id])) := by
    intro i y hy
    rcases set_some hy with ⟨q1, _, q2⟩ | ⟨hne, hy⟩
    · exact .inl ⟨q1, q2⟩
    · obtain ⟨y0, h1, h2⟩ := getElem?_map_some (l := H) (f := AObj.kill (List.contains [id])) hy
      exact .inr ⟨hne, y0, h1, h2.symm⟩
  have hm0 : (AObj.rows E fr e (l.take n)).mat η' id → (AObj.rows E fr e l).mat η id := fun h hn => h (by
    obtain ⟨A, hA⟩ := hn
    exact ⟨A, by rw [hv0, hA]; simp [cutV]⟩)
  have hmo : ∀ i y0, i ≠ id → ((y0 : AObj).kill (List.contains [id])).mat η' i → y0.mat η i := by
    intro i y0 hne hm
    rw [mat_kill] at hm
    cases y0 <;> simp only [AObj.mat, hhv i hne] at hm ⊢ <;> exact hm
  have hlen : ((H.map (AObj.kill (List.contains [id]))).set id (.rows E fr e (l.take n))).length = H.length := by simp
  refine ⟨⟨I.nlt, I.fr, by rw [hZ]; exact I.zlt, by rw [hZ]; exact I.zsub, by rw [hZ]; exact I.znew, fun i => ?_, fun i y hy => ?_, fun i y hy hm => ?_, fun i j y z hy hz my mz he => ?_⟩, x, fun v sz hv => ?_⟩
  · by_cases hi : i = id
    · subst hi
      obtain ⟨A, m, c, hA⟩ := I.hvs i
      exact ⟨A, min n m, c, by rw [hv0, hA]; rfl⟩
    · rw [hhv i hi]; exact I.hvs i
  · rw [hlen]
    rcases hget i y hy with ⟨rfl, rfl⟩ | ⟨hne, y0, h1, rfl⟩
    · obtain ⟨q1, q2⟩ := I.obj i _ ho
      refine ⟨hl0, ?_⟩
      rcases q2 with ⟨⟨B, q2⟩, rfl⟩ | ⟨c, cap, q2, q3, q4, q5, q6, q7⟩
      · exact .inl ⟨⟨B, by rw [hv0, q2]; simp [cutV]⟩, by simp⟩
      · refine .inr ⟨c, cap, by rw [hv0, q2, hι]; simp [cutV], by rw [hι]; exact q3, by simp; omega, q5, q6, fun k y hk => ?_⟩
        rw [hZ]
        refine q7 k y ?_
        rw [List.getElem?_take] at hk
        split at hk
        · exact hk
        · cases hk
    · exact (I.obj i y0 h1).killed x (List.getElem?_eq_some_iff.1 h1).1 (by simpa using hne) (fun _ => rfl)
  · rw [hι, hZ]
    rcases hget i y hy with ⟨rfl, rfl⟩ | ⟨hne, y0, h1, rfl⟩
    · exact I.own i _ ho (hm0 hm)
    · exact I.own i y0 h1 (hmo i y0 hne hm)
  · rw [hι, hι] at he
    rcases hget i y hy with ⟨rfl, rfl⟩ | ⟨hne, y0, h1, rfl⟩ <;> rcases hget j z hz with ⟨e2, rfl⟩ | ⟨hne', z0, h2, rfl⟩
    · exact e2.symm
    · exact I.inj i j _ z0 ho h2 (hm0 my) (hmo j z0 hne' mz) he
    · subst e2; exact I.inj i j y0 _ h1 ho (hmo i y0 hne my) (hm0 mz) he
    · exact I.inj i j y0 z0 h1 h2 (hmo i y0 hne my) (hmo j z0 hne' mz) he
  · cases hv with
    | @pre _ _ _ m cap A _ hvv hn hc =>
      have := @AVR.all η' H.length w id sz hid
      rw [hv0, hvv] at this
      simpa [cutV, Nat.min_eq_left hn] using this

/-- A box's cell is told of otherwise. -/
theorem Inv.recell {H : List AObj} (I : Inv N w0 η H w) {b j : Nat} {cs : List AV} (hb : H[b]? = some (.box cs)) {a : AV} (ha : ∀ c E f, w.heap[η.ι b]? = some (.cells c E f) → AVR η H.length w a (c.getD j undef)) :
    Inv N w0 η (H.set b (.box (cs.set j a))) w := by
  have hget : ∀ i y, (H.set b (.box (cs.set j a)))[i]? = some y → (i = b ∧ y = .box (cs.set j a)) ∨ (i ≠ b ∧ H[i]? = some y) := by
    intro i y hy
    rcases set_some hy with ⟨q1, _, q2⟩ | ⟨hne, hy⟩
    · exact .inl ⟨q1, q2⟩
    · exact .inr ⟨hne, hy⟩
  refine ⟨I.nlt, I.fr, I.zlt, I.zsub, I.znew, I.hvs, fun i y hy => ?_, fun i y hy hm => ?_, fun i k y z hy hz my mz he => ?_⟩
  · rw [List.length_set]
    rcases hget i y hy with ⟨rfl, rfl⟩ | ⟨hne, hy⟩
    · obtain ⟨g1, c, E, g2, g3, g4⟩ := I.obj i _ hb
      refine ⟨g1, c, E, g2, by simpa using g3, fun k x hk => ?_⟩
      rw [List.getElem?_set] at hk
      split at hk
      · rename_i hjk
        subst hjk
        split at hk
        · rename_i hlt
          obtain rfl := Option.some.inj hk
          exact ⟨ha c E _ g2, (g4 j _ (List.getElem?_eq_getElem hlt)).2⟩
        · cases hk
      · exact g4 k x hk
    · exact I.obj i y hy
  · rcases hget i y hy with ⟨rfl, rfl⟩ | ⟨hne, hy⟩
    · exact I.own i _ hb trivial
    · exact I.own i y hy hm
  · rcases hget i y hy with ⟨rfl, rfl⟩ | ⟨hne, hy1⟩ <;> rcases hget k z hz with ⟨e2, rfl⟩ | ⟨hne', hz1⟩
    · exact e2.symm
    · exact I.inj i k _ z hb hz1 trivial mz he
    · subst e2; exact I.inj i k y _ hy1 hb my trivial he
    · exact I.inj i k y z hy1 hz1 my mz he
end

/-- Prefixes in boxes become all rows. -/
def normB : List (Nat × Nat) → List AObj × List Nat → List AObj × List Nat
  | [], p => p
  | (b, j) :: r, p =>
    match p.1[b]? with
    | some (.box cs) =>
      match cs[j]? with
      | some (.pre id sz n) =>
        match p.1[id]? with
        | some (.rows E fr e l) => normB r ((((p.1.map (AObj.kill (List.contains [id]))).set id (.rows E fr e (l.take n))).set b (.box ((cs.map (AV.kill1 (List.contains [id]))).set j (.all id sz)))), id :: p.2)
        | _ => normB r p
      | _ => normB r p
    | _ => normB r p
/-- An answer that is a prefix becomes all rows. -/
def normR (p : AV × List AObj × List Nat) : AV × List AObj × List Nat :=
  match p.1 with
  | .pre id sz n =>
    match p.2.1[id]? with
    | some (.rows E fr e l) => (.all id sz, (p.2.1.map (AObj.kill (List.contains [id]))).set id (.rows E fr e (l.take n)), id :: p.2.2)
    | _ => p
  | _ => p
def endM (kx : List Nat) (nb : List (Nat × Nat)) (p : AV × List AObj × List Nat) : Option (AV × List AObj × List Nat) :=
  let q := normR p
  match nb with
  | [] => cond (q.2.2.all kx.contains) (some (q.1, q.2.1, kx)) none
  | nb => let h := normB nb q.2; cond (h.2.all kx.contains && q.1.bare) (some (q.1, h.1, kx)) none

section
variable {P : Program} {N : Nat → Prop} {w0 : World} {w : World} {tt : TT} {S : Tab} {QF : FuncId → Bool}
theorem Ext.weaken {K K' : Nat → Bool} {η η' : Env} {h h' : Nat} {w w' : World} (x : Ext K η h w η' h' w') (hk : ∀ i, K' i = false → K i = false) : Ext K' η h w η' h' w' :=
  ⟨fun i hi h => x.nm i hi (hk i h), x.z, x.same, x.zold⟩
theorem ext_cons {η0 η η' : Env} {h0 h h' : Nat} {we w w' : World} {ks : List Nat} {id : Nat} (x : Ext ks.contains η0 h0 we η h w) (y : Ext (List.contains [id]) η h w η' h' w') : Ext (id :: ks).contains η0 h0 we η' h' w' := by
  refine x.trans y (fun i hi hk => ?_)
  simp only [List.contains_cons, Bool.or_eq_false_iff] at hk
  exact ⟨hk.2, by simpa using hk.1⟩
theorem normR_rel {η0 η : Env} {h0 : Nat} {we : World} {r : AV} {H : List AObj} {ks : List Nat} {v : Value} (I : Inv N w0 η H w) (x : Ext ks.contains η0 h0 we η H.length w) (ra : AVR η H.length w r v) :
    ∃ η', Inv N w0 η' (normR (r, H, ks)).2.1 w ∧ Ext (normR (r, H, ks)).2.2.contains η0 h0 we η' (normR (r, H, ks)).2.1.length w ∧ AVR η' (normR (r, H, ks)).2.1.length w (normR (r, H, ks)).1 v := by
  simp only [normR]
  split
  · rename_i id sz n
    split
    · rename_i E fr e l ho
      obtain ⟨J, y, q⟩ := I.cutAt ho n
      have hl : ((H.map (AObj.kill (List.contains [id]))).set id (.rows E fr e (l.take n))).length = H.length := by simp
      refine ⟨_, J, ?_, ?_⟩
      · rw [hl]; exact ext_cons x y
      · rw [hl]; exact q v sz ra
    · exact ⟨η, I, x, ra⟩
  · exact ⟨η, I, x, ra⟩
theorem normB_rel {η0 : Env} {h0 : Nat} {we : World} : ∀ (nb : List (Nat × Nat)) (H : List AObj) (ks : List Nat) (η : Env), Inv N w0 η H w → Ext ks.contains η0 h0 we η H.length w →
    ∃ η', Inv N w0 η' (normB nb (H, ks)).1 w ∧ Ext (normB nb (H, ks)).2.contains η0 h0 we η' (normB nb (H, ks)).1.length w ∧ η'.Z = η.Z := by
  intro nb
  induction nb with
  | nil => intro H ks η I x; exact ⟨η, I, x, rfl⟩
  | cons p r ih =>
    intro H ks η I x
    obtain ⟨b, j⟩ := p
    simp only [normB]
    split
    · rename_i cs hb
      split
      · rename_i id sz n hj
        split
        · rename_i E fr e l ho
          obtain ⟨J, y, q⟩ := I.cutAt ho n
          have hne : b ≠ id := fun h => by subst h; rw [hb] at ho; cases ho
          have hb2 : ((H.map (AObj.kill (List.contains [id]))).set id (.rows E fr e (l.take n)))[b]? = some (.box (cs.map (AV.kill1 (List.contains [id])))) := by
            rw [List.getElem?_set_ne (Ne.symm hne), List.getElem?_map, hb]; rfl
          have hl : ((H.map (AObj.kill (List.contains [id]))).set id (.rows E fr e (l.take n))).length = H.length := by simp
          have J2 := J.recell (j := j) hb2 (a := .all id sz) (fun c E' f hc => by
            rw [hl]
            have hι : (η.upd id (η.ι id) (cutV (η.hv id) n) (l.take n).length).ι b = η.ι b := by simp [Env.upd, hne]
            rw [hι] at hc
            obtain ⟨_, c', E2, g2, g3, g4⟩ := I.obj b _ hb
            rw [g2] at hc
            cases hc
            exact q _ sz (g4 j _ hj).1)
          have hl2 : (((H.map (AObj.kill (List.contains [id]))).set id (.rows E fr e (l.take n))).set b (.box ((cs.map (AV.kill1 (List.contains [id]))).set j (.all id sz)))).length = H.length := by simp
          obtain ⟨η', i1, i2, i3⟩ := ih _ (id :: ks) _ J2 (by rw [hl2]; exact ext_cons x y)
          exact ⟨η', i1, i2, i3.trans rfl⟩
        · exact ih H ks η I x
      · exact ih H ks η I x
    · exact ih H ks η I x
theorem endM_rel {η0 η : Env} {h0 : Nat} {we : World} {kx : List Nat} {nb : List (Nat × Nat)} {r : AV} {H : List AObj} {ks : List Nat} {v : Value} (I : Inv N w0 η H w) (x : Ext ks.contains η0 h0 we η H.length w) (ra : AVR η H.length w r v)
    {r' : AV} {H' : List AObj} {ks' : List Nat} (h : endM kx nb (r, H, ks) = some (r', H', ks')) : ∃ η', Inv N w0 η' H' w ∧ Ext ks'.contains η0 h0 we η' H'.length w ∧ AVR η' H'.length w r' v := by
  obtain ⟨η1, I1, x1, r1⟩ := normR_rel I x ra
  have wk : ∀ (l : List Nat), l.all kx.contains = true → ∀ i, kx.contains i = false → l.contains i = false := fun l hl i hi => by
    rw [List.all_eq_true] at hl
    cases hc : l.contains i with
    | false => rfl
    | true =>
      have hm : i ∈ l := by simpa using hc
      rw [hl i hm] at hi; cases hi
  simp only [endM] at h
  split at h
  · cases hc : ((normR (r, H, ks)).2.2.all kx.contains) with
    | false => rw [hc] at h; cases h
    | true =>
      rw [hc] at h
      simp only [cond_true, Option.some.injEq, Prod.mk.injEq] at h
      obtain ⟨rfl, rfl, rfl⟩ := h
      exact ⟨η1, I1, x1.weaken (wk _ hc), r1⟩
  · obtain ⟨η2, I2, x2, hz⟩ := normB_rel nb _ _ η1 I1 x1
    cases hc : ((normB nb (normR (r, H, ks)).2).2.all kx.contains && (normR (r, H, ks)).1.bare) with
    | false => rw [hc] at h; cases h
    | true =>
      rw [hc] at h
      simp only [Bool.and_eq_true] at hc
      simp only [cond_true, Option.some.injEq, Prod.mk.injEq] at h
      obtain ⟨rfl, rfl, rfl⟩ := h
      exact ⟨η2, I2, x2.weaken (wk _ hc.1), r1.bare hz hc.2⟩

/-- A body, run from arguments in a heap of objects; its end told anew. -/
def runE (mr : Bool) (P : Program) (tt : TT) (S : Tab) (QF : FuncId → Bool) (L : Nat → St → Option Tree) (fn : Func) (args : List AV) (H : List AObj) (dl : List AV) (kx : List Nat) (nb : List (Nat × Nat)) : Option (AV × List AObj × List Nat) :=
  match fn.body with
  | some c => execC P tt S QF L 0 c { slots := startSlots fn args, heap := H, base := H.length, killed := [] } (fun e st => (match mr with
    | true => finMR tt fn dl e st
    | false => finM tt fn e st).bind (endM kx nb))
  | none => none

theorem finM_rel (G : Good P tt S QF) {fn : Func} {η0 η : Env} {h0 : Nat} {we : World} {st : St} {a : Act} (s : SR N w0 η0 h0 we η st a w) {e : Ex} {p : AV × List AObj × List Nat} (h : finM tt fn e st = some p) :
    a.defers = [] ∧ ∃ v, (results fn a.tmps).run P w = .ok v w ∧ ∃ η', Inv N w0 η' p.2.1 w ∧ Ext p.2.2.contains η0 h0 we η' p.2.1.length w ∧ AVR η' p.2.1.length w p.1 v := by
  have key : (resAV tt fn (st.compact (resSlots fn))).map (fun r => ((matR false tt fn.resultTypes.toList r (st.compact (resSlots fn))).1, (matR false tt fn.resultTypes.toList r (st.compact (resSlots fn))).2.heap, (matR false tt fn.resultTypes.toList r (st.compact (resSlots fn))).2.killed)) = some p := by
    cases e with
    | exit id => simp [finM] at h
    | _ => exact h
  obtain ⟨η', s'⟩ := s.compact (resSlots fn)
  obtain ⟨r1, g1, rfl⟩ := Option.map_eq_some_iff.1 key
  obtain ⟨v, v1, v2⟩ := resAV_rel G.types s' g1
  obtain ⟨η2, s2, v3⟩ := s'.matR (tt := tt) (ro := false) (ts := fn.resultTypes.toList) v2
  exact ⟨s'.sl.defers, v, v1, η2, s2.inv, s2.ext, v3⟩
theorem finMR_rel (G : Good P tt S QF) {fn : Func} {η0 η : Env} {h0 : Nat} {we : World} {st : St} {a : Act} (s : SR N w0 η0 h0 we η st a w) {e : Ex} {dl : List AV} {p : AV × List AObj × List Nat} (h : finMR tt fn dl e st = some p) :
    a.defers = [] ∧ ∃ v, (results fn a.tmps).run P w = .ok v w ∧ ∃ η', Inv N w0 η' p.2.1 w ∧ Ext p.2.2.contains η0 h0 we η' p.2.1.length w ∧ AVR η' p.2.1.length w p.1 v := by
  have key : ((resAV tt fn (st.compact (resSlots fn))).bind fun r0 =>
        let p := roRes true (st.compact (resSlots fn)) (coer true tt fn.resultTypes.toList r0)
        cond p.1.bare (some (p.1, ((St.freezeL dl p.2).2.compact []).heap, ((St.freezeL dl p.2).2.compact []).killed)) none) = some p := by
    cases e with
    | exit id => simp [finMR] at h
    | _ => exact h
  obtain ⟨η', s'⟩ := s.compact (resSlots fn)
  obtain ⟨r1, g1, g2⟩ := Option.bind_eq_some_iff.1 key
  simp only at g2
  obtain ⟨v, v1, v2⟩ := resAV_rel G.types s' g1
  obtain ⟨η2, s2, r2⟩ := s'.roRes true (coer true tt fn.resultTypes.toList r1)
  cases hb : (roRes true (st.compact (resSlots fn)) (coer true tt fn.resultTypes.toList r1)).1.bare with
  | false => rw [hb] at g2; cases g2
  | true =>
    rw [hb] at g2
    simp only [cond_true, Option.some.injEq] at g2
    subst g2
    obtain ⟨η4, s4, x4, _⟩ := s2.freezeL dl
    obtain ⟨η3, s3, hz⟩ := s4.compactZ []
    exact ⟨s'.sl.defers, v, v1, η3, s3.inv, s3.ext, ((r2 _ (coer_rel v2)).ext x4).bare hz hb⟩

theorem runE_sound (G : Good P tt S QF) {f : FuncId} {fn : Func} (hf : P.funcs[f]? = some fn) {L : Nat → St → Option Tree} (hL : ∀ p ∈ loopsIn 0 (bodyOf fn), LoopWp P (L p.1) p.2) {mr : Bool} {args : List AV} {H : List AObj} {r : AV} {H' : List AObj} {ks : List Nat} {dl : List AV} {kx : List Nat} {nb : List (Nat × Nat)} {η : Env}
    (h : runE mr P tt S QF L fn args H dl kx nb = some (r, H', ks)) (I : Inv N w0 η H w) {vs : Array Value} (hl : vs.size = args.length) (hr : ∀ i c, args[i]? = some c → AVR η H.length w c (vs.getD i undef)) :
    Calls P f vs w fun e w' => ∃ v η', e = .returned v ∧ Inv N w0 η' H' w' ∧ Ext ks.contains η H.length w η' H'.length w' ∧ AVR η' H'.length w' r v := by
  simp only [runE] at h
  split at h
  · rename_i c hc
    refine calls_of_wp hf hc ?_
    have fin : ∀ (e : Ex) (st' : St) (η' : Env) (a' : Act) (w' : World), ((match mr with
        | true => finMR tt fn dl e st'
        | false => finM tt fn e st').bind (endM kx nb)) = some (r, H', ks) → SR N w0 η H.length w η' st' a' w' →
        a'.defers = [] ∧ ∃ v, (results fn a'.tmps).run P w' = .ok v w' ∧ ∃ v1 η', Ending.returned v = .returned v1 ∧ Inv N w0 η' H' w' ∧ Ext ks.contains η H.length w η' H'.length w' ∧ AVR η' H'.length w' r v1 := by
      intro e st' η' a' w' hk s'
      obtain ⟨⟨r0, H0, k0⟩, h1, h2⟩ := Option.bind_eq_some_iff.1 hk
      have h3 : a'.defers = [] ∧ ∃ v, (results fn a'.tmps).run P w' = .ok v w' ∧ ∃ η', Inv N w0 η' H0 w' ∧ Ext k0.contains η H.length w η' H0.length w' ∧ AVR η' H0.length w' r0 v := by
        cases mr with
        | true => exact finMR_rel G s' h1
        | false => exact finM_rel G s' h1
      obtain ⟨d, v, hv, η2, J, x, ra⟩ := h3
      obtain ⟨η3, J3, x3, r3⟩ := endM_rel J x ra h2
      exact ⟨d, v, hv, v, η3, rfl, J3, x3, r3⟩
    refine execC_sound G L c 0 _ _ _ η _ w (by simpa [bodyOf, hc] using hL) h ?_ (SR.start I hl hr fn)
    intro e st' η' a' w' hk s'
    cases e with
    | normal => exact fin .normal st' η' a' w' hk s'
    | ret => exact fin .ret st' η' a' w' hk s'
    | exit id => cases mr <;> simp [finM, finMR] at hk
  · cases h

theorem MContract.of_dataE (mr : Bool) (dl : List AV) (kx : List Nat) (nb : List (Nat × Nat)) (G : Good P tt S QF) {f : FuncId} {fn : Func} (hf : P.funcs[f]? = some fn) {L : Nat → St → Option Tree} (hL : ∀ p ∈ loopsIn 0 (bodyOf fn), LoopWp P (L p.1) p.2)
    (s : SS) (pre : s.den → Bool) (g : s.den → AV × List AObj × List Nat) (h : ∀ d, pre d = true → runE mr P tt S QF L fn (shsMk s.sl d.1) (ohsMk s.hp d.2) dl kx nb = some (g d)) : MContract P f (msum s pre g) := by
  intro args H r H' Kf hsm N w0 η w vs I hl hr
  simp only [msum] at hsm
  split at hsm
  · rename_i x y hx hy
    simp only [Option.some.injEq, Prod.mk.injEq] at hsm
    obtain ⟨h1, h2, h3, hp⟩ := hsm
    obtain rfl := ohsRd_eq _ _ _ hy
    obtain ⟨q1, q2⟩ := shsRdC_rel I (h := (ohsMk s.hp y).length) s.sl args x hx
    have hrun := h (x, y) hp
    have e : g (x, y) = (r, H', Kf) := by rw [← h1, ← h2, ← h3]
    rw [e] at hrun
    exact runE_sound G hf hL hrun I (by rw [hl]; exact q1.symm) (q2 (fun i => vs.getD i undef) hr)
  · cases hsm
end
end Go.Proofs.Ytoddiofedjnapaa.Eng
