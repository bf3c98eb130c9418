/- What the functions that FnExactOutcome reaches compute: further. -/
import Derived.Test.YtccelbeahdcooaaFExactOutcomeC
namespace Go.Proofs.Ytccelbeahdcooaa.Eng
open Go Go.RowKit
set_option linter.unusedSimpArgs false
set_option linter.unusedVariables false
set_option maxRecDepth 10000
/-! 13 loop.example/g00244/laws.FnExactOutcome -/
noncomputable abbrev t_pipspipispipttpipspttspipispiptt : Ty := .pair (.int .i64) (.pair (.sl (.pair (.int .i64) (.pair (.int .i64) (.sl (.pair (.int .i64) (.pair .str .str)))))) (.pair (.int .i64) (.pair (.sl (.pair .str .str)) (.sl (.pair (.int .i64) (.pair (.int .i64) (.sl (.pair (.int .i64) (.pair .str .str)))))))))
noncomputable abbrev P_lFnExactOutcome : List PSh := [.agg [(.int .i64), t_spipispiptt, (.int .i64), t_sptt, t_spipispiptt], .t (.int .i64)]
noncomputable def k1_lFnExactOutcome (a0 : Int) (a1 : LIILIBBee) (a2 : Int) (a3 : LBBe) (a4 : LIILIBBee) (a5 : Int) := sOutcome ((ltoShard a0 a1 a2 a3 a4).1) ((ltoShard a0 a1 a2 a3 a4).2.1) ((ltoShard a0 a1 a2 a3 a4).2.2.1) ((ltoShard a0 a1 a2 a3 a4).2.2.2.1) ((ltoShard a0 a1 a2 a3 a4).2.2.2.2) a5
noncomputable def k2_lFnExactOutcome (a0 : Int) (a1 : LIILIBBee) (a2 : Int) (a3 : LBBe) (a4 : LIILIBBee) (a5 : Int) := iOutcome ((ltoShard a0 a1 a2 a3 a4).1) ((ltoShard a0 a1 a2 a3 a4).2.1) ((ltoShard a0 a1 a2 a3 a4).2.2.1) ((ltoShard a0 a1 a2 a3 a4).2.2.2.1) ((ltoShard a0 a1 a2 a3 a4).2.2.2.2) a5
noncomputable def k3_lFnExactOutcome (a0 : Int) (a1 : LIILIBBee) (a2 : Int) (a3 : LBBe) (a4 : LIILIBBee) := leqShard ((ltoShard a0 a1 a2 a3 a4).1) ((ltoShard a0 a1 a2 a3 a4).2.1) ((ltoShard a0 a1 a2 a3 a4).2.2.1) ((ltoShard a0 a1 a2 a3 a4).2.2.2.1) ((ltoShard a0 a1 a2 a3 a4).2.2.2.2) ((ltoShard a0 a1 a2 a3 a4).1) ((ltoShard a0 a1 a2 a3 a4).2.1) ((ltoShard a0 a1 a2 a3 a4).2.2.1) ((ltoShard a0 a1 a2 a3 a4).2.2.2.1) ((ltoShard a0 a1 a2 a3 a4).2.2.2.2)
noncomputable def lFnExactOutcome (a0 : Int) (a1 : LIILIBBee) (a2 : Int) (a3 : LBBe) (a4 : LIILIBBee) (a5 : Int) : Bool := (cond (decide ((lszShard a0 a1 a2 a3 a4 (1048576 : Int)) < (0 : Int))) true (cond ((k2_lFnExactOutcome a0 a1 a2 a3 a4 a5) != (k1_lFnExactOutcome a0 a1 a2 a3 a4 a5)) false (cond (!(k3_lFnExactOutcome a0 a1 a2 a3 a4)) false true)))
noncomputable abbrev e_lFnExactOutcome (r : Bool) : AV × List AObj := ((.t true .bool r), [])
noncomputable abbrev F_lFnExactOutcome (r : Bool) := some (e_lFnExactOutcome r)
noncomputable abbrev g_lFnExactOutcome : pshsDen P_lFnExactOutcome → AV × List AObj := fun d => e_lFnExactOutcome (lFnExactOutcome d.1.1 d.1.2.1 d.1.2.2.1 d.1.2.2.2.1 d.1.2.2.2.2.1 d.2.1)
noncomputable def q_lFnExactOutcome (a0 : Int) (a1 : LIILIBBee) (a2 : Int) (a3 : LBBe) (a4 : LIILIBBee) (a5 : Int) : Bool := (q_lszShard a0 a1 a2 a3 a4 (1048576 : Int)) && (cond (decide ((lszShard a0 a1 a2 a3 a4 (1048576 : Int)) < (0 : Int))) true ((q_ltoShard a0 a1 a2 a3 a4) && ((q_sOutcome ((ltoShard a0 a1 a2 a3 a4).1) ((ltoShard a0 a1 a2 a3 a4).2.1) ((ltoShard a0 a1 a2 a3 a4).2.2.1) ((ltoShard a0 a1 a2 a3 a4).2.2.2.1) ((ltoShard a0 a1 a2 a3 a4).2.2.2.2) a5) && ((q_ltoShard a0 a1 a2 a3 a4) && ((q_iOutcome ((ltoShard a0 a1 a2 a3 a4).1) ((ltoShard a0 a1 a2 a3 a4).2.1) ((ltoShard a0 a1 a2 a3 a4).2.2.1) ((ltoShard a0 a1 a2 a3 a4).2.2.2.1) ((ltoShard a0 a1 a2 a3 a4).2.2.2.2) a5) && (cond ((k2_lFnExactOutcome a0 a1 a2 a3 a4 a5) != (k1_lFnExactOutcome a0 a1 a2 a3 a4 a5)) true ((q_ltoShard a0 a1 a2 a3 a4) && (q_leqShard ((ltoShard a0 a1 a2 a3 a4).1) ((ltoShard a0 a1 a2 a3 a4).2.1) ((ltoShard a0 a1 a2 a3 a4).2.2.1) ((ltoShard a0 a1 a2 a3 a4).2.2.2.1) ((ltoShard a0 a1 a2 a3 a4).2.2.2.2) ((ltoShard a0 a1 a2 a3 a4).1) ((ltoShard a0 a1 a2 a3 a4).2.1) ((ltoShard a0 a1 a2 a3 a4).2.2.1) ((ltoShard a0 a1 a2 a3 a4).2.2.2.1) ((ltoShard a0 a1 a2 a3 a4).2.2.2.2)))))))))
noncomputable abbrev pre_lFnExactOutcome : pshsDen P_lFnExactOutcome → Bool := fun d => q_lFnExactOutcome d.1.1 d.1.2.1 d.1.2.2.1 d.1.2.2.2.1 d.1.2.2.2.2.1 d.2.1
theorem runA_lFnExactOutcome (a0 : Int) (a1 : LIILIBBee) (a2 : Int) (a3 : LBBe) (a4 : LIILIBBee) (a5 : Int) (hp : q_lFnExactOutcome a0 a1 a2 a3 a4 a5 = true) : runP true Try.prog tt S82 QF82 (fun _ _ => none) Try.f13 (argsMk P_lFnExactOutcome ((a0, (a1, (a2, (a3, (a4, ()))))), (a5, ()))) = some (g_lFnExactOutcome ((a0, (a1, (a2, (a3, (a4, ()))))), (a5, ()))) := by
  unfold q_lFnExactOutcome at hp
  refine Eq.trans (b := (cond (q_lszShard a0 a1 a2 a3 a4 (1048576 : Int)) (cond (decide ((lszShard a0 a1 a2 a3 a4 (1048576 : Int)) < (0 : Int))) (some (e_lFnExactOutcome true)) (cond (q_ltoShard a0 a1 a2 a3 a4) (cond (q_sOutcome ((ltoShard a0 a1 a2 a3 a4).1) ((ltoShard a0 a1 a2 a3 a4).2.1) ((ltoShard a0 a1 a2 a3 a4).2.2.1) ((ltoShard a0 a1 a2 a3 a4).2.2.2.1) ((ltoShard a0 a1 a2 a3 a4).2.2.2.2) a5) (cond (q_ltoShard a0 a1 a2 a3 a4) (cond (q_iOutcome ((ltoShard a0 a1 a2 a3 a4).1) ((ltoShard a0 a1 a2 a3 a4).2.1) ((ltoShard a0 a1 a2 a3 a4).2.2.1) ((ltoShard a0 a1 a2 a3 a4).2.2.2.1) ((ltoShard a0 a1 a2 a3 a4).2.2.2.2) a5) (cond ((k2_lFnExactOutcome a0 a1 a2 a3 a4 a5) != (k1_lFnExactOutcome a0 a1 a2 a3 a4 a5)) (some (e_lFnExactOutcome false)) (cond (q_ltoShard a0 a1 a2 a3 a4) (cond (q_leqShard ((ltoShard a0 a1 a2 a3 a4).1) ((ltoShard a0 a1 a2 a3 a4).2.1) ((ltoShard a0 a1 a2 a3 a4).2.2.1) ((ltoShard a0 a1 a2 a3 a4).2.2.2.1) ((ltoShard a0 a1 a2 a3 a4).2.2.2.2) ((ltoShard a0 a1 a2 a3 a4).1) ((ltoShard a0 a1 a2 a3 a4).2.1) ((ltoShard a0 a1 a2 a3 a4).2.2.1) ((ltoShard a0 a1 a2 a3 a4).2.2.2.1) ((ltoShard a0 a1 a2 a3 a4).2.2.2.2)) (cond (!(k3_lFnExactOutcome a0 a1 a2 a3 a4)) (some (e_lFnExactOutcome false)) (some (e_lFnExactOutcome true))) none) none)) none) none) none) none)) none)) (by kernel_rfl) ?_
  exact (cndA hp fun hp => (cndQ (F := F_lFnExactOutcome) hp (fun hp => rfl) (fun hp => (cndA hp fun hp => (cndA hp fun hp => (cndA hp fun hp => (cndA hp fun hp => (cndQ (F := F_lFnExactOutcome) hp (fun hp => rfl) (fun hp => (cndA hp fun hp => (cndT hp fun _h => (cnd (F := F_lFnExactOutcome) (fun _h => rfl) (fun _h => rfl)))))))))))))
theorem run_lFnExactOutcome : ∀ d, pre_lFnExactOutcome d = true → runP true Try.prog tt S82 QF82 (fun _ _ => none) Try.f13 (argsMk P_lFnExactOutcome d) = some (g_lFnExactOutcome d) := fun d hp => runA_lFnExactOutcome d.1.1 d.1.2.1 d.1.2.2.1 d.1.2.2.2.1 d.1.2.2.2.2.1 d.2.1 hp
theorem c_lFnExactOutcome : PContract Try.prog 13 (sumOf P_lFnExactOutcome pre_lFnExactOutcome g_lFnExactOutcome) := PContract.of_data true G82 (fn := Try.f13) (by kernel_rfl) (L := fun _ _ => none) (by rw [show loopsIn 0 (bodyOf Try.f13) = [] by kernel_rfl]; simp) P_lFnExactOutcome pre_lFnExactOutcome g_lFnExactOutcome run_lFnExactOutcome
noncomputable def S83 : Tab := Tab.add S82 13 (lift (sumOf P_lFnExactOutcome pre_lFnExactOutcome g_lFnExactOutcome))
noncomputable def QF83 : FuncId → Bool := qadd QF82 13
theorem G83 : Good Try.prog tt S83 QF83 := G82.addQ c_lFnExactOutcome ⟨Try.f13, by kernel_rfl, by kernel_rfl, by kernel_rfl⟩ (fun _ => rfl)
noncomputable abbrev RecD := (Int) × (Int) × LIBBe
noncomputable abbrev ShardD := (Int) × (List RecD) × (Int) × (LBBe) × List RecD
noncomputable def okOpS (l : LIBBe) : Prop := okOps l = true
noncomputable def okRec (x : RecD) : Prop := okOpS x.2.2
noncomputable def okRecS (l : List RecD) : Prop := l.length ≤ 1048576 ∧ ∀ x ∈ l, okRec x
noncomputable abbrev PairD := ByteArray × ByteArray
noncomputable def okPairS (l : List PairD) : Prop := l.length ≤ 1048576 ∧ ∀ p ∈ l, okS p.1 = true ∧ okS p.2 = true
noncomputable def okShard (x : ShardD) : Prop := okRecS x.2.1 ∧ okPairS x.2.2.2.1 ∧ okRecS x.2.2.2.2
noncomputable def keyAny (k : ByteArray) (ops : LIBBe) : Bool := ops.any fun x => k.toList == x.2.1.toList
noncomputable def keysAny (l ops : LIBBe) : Bool := l.any fun o => keyAny o.2.1 ops
/-- Has one that is held a key of orders? -/
noncomputable def lockedL (held : List RecD) (ops : LIBBe) : Bool := held.any fun r => keysAny r.2.2 ops
/-- Does an order say must, and is it not so? -/
noncomputable def misses (m : LBBe) (o : Int × ByteArray × ByteArray) : Bool := cond (o.1 != 3) false (cond (!((sGetKey m o.2.1).2 == (!(o.2.2.toList == bE.toList)))) true (!((sGetKey m o.2.1).1.toList == o.2.2.toList)))
noncomputable def meetsL (m : LBBe) (ops : LIBBe) : Bool := !(ops.any (misses m))
noncomputable def isTx (t : Int) (r : RecD) : Bool := r.2.1 == t
noncomputable def dRec : RecD := ((0 : Int), ((0 : Int), ([] : LIBBe)))
noncomputable def isK (k : ByteArray) (p : ByteArray × ByteArray) : Bool := p.1.toList == k.toList
noncomputable def dP : ByteArray × ByteArray := (bE, bE)
noncomputable def overK (k : ByteArray) (p : ByteArray × ByteArray) : Bool := !(Op.bytesLess p.1.toList k.toList || p.1.toList == k.toList)
noncomputable def putL (l : LBBe) (k v : ByteArray) : LBBe :=
  cond (decide (l.findIdx (isK k) < l.length)) (l.set (l.findIdx (isK k)) ((l.getD (l.findIdx (isK k)) dP).1, v)) (l.take (l.findIdx (overK k)) ++ ((k, v) :: l.drop (l.findIdx (overK k))))
noncomputable def delL (l : LBBe) (k : ByteArray) : LBBe := l.filter fun p => !isK k p
noncomputable def appL (l : LBBe) (o : Int × ByteArray × ByteArray) : LBBe := cond (o.1 == 1) (putL l o.2.1 o.2.2) (cond (o.1 == 2) (delL l o.2.1) l)
/-- One record more; none where it does not fit. -/
noncomputable def stepL (kn : Bool) (m : List PairD) (held : List RecD) (r : RecD) : Option (List PairD × List RecD) :=
  cond (!(sRecOk r.1 r.2.1 r.2.2)) none (cond (r.1 == 1)
    (cond kn none (cond (lockedL held r.2.2) none (cond (!(meetsL m r.2.2)) none (some (m, held ++ [((1 : Int), (r.2.1, r.2.2))])))))
    (cond (!(held.any (isTx r.2.1))) (cond (r.1 == 3) (cond kn none (some (m, held))) none)
      (cond (r.1 == 2) (cond (decide (((((held.getD (held.findIdx (isTx r.2.1)) dRec).2.2.foldl appL m).length : Nat) : Int) ≤ 60)) (some ((held.getD (held.findIdx (isTx r.2.1)) dRec).2.2.foldl appL m, held.eraseIdx (held.findIdx (isTx r.2.1)))) none)
        (cond (decide (((m.length : Nat) : Int) ≤ 60)) (some (m, held.eraseIdx (held.findIdx (isTx r.2.1)))) none))))
/-- What the first i records make. -/
noncomputable def repL (l : List RecD) : Nat → Option (List PairD × List RecD)
  | 0 => some ([], [])
  | i + 1 => (repL l i).bind fun s => stepL ((l.take i).any (isTx (l.getD i dRec).2.1)) s.1 s.2 (l.getD i dRec)
noncomputable def repOut (l : List RecD) : List PairD × List RecD × Bool := match repL l l.length with
  | none => ([], [], false)
  | some s => (s.1, s.2, true)
/-- No two of a transaction. -/
noncomputable def oneTx (l : List RecD) : Prop := (l.map (·.2.1)).Nodup
noncomputable abbrev RepOk (l : List RecD) (i : Nat) (m : List PairD) (held : List RecD) : Prop := oneTx held ∧ (∀ x ∈ held, okOps x.2.2 = true ∧ (l.take i).any (isTx x.2.1) = true) ∧ held.length ≤ i ∧ m.length ≤ 60
theorem take_succ_getD {α : Type} {l : List α} {i : Nat} (hi : i < l.length) (d : α) : l.take (i + 1) = l.take i ++ [l.getD i d] := by
  rw [List.take_add_one, List.getElem?_eq_getElem hi]; simp [List.getD_eq_getElem?_getD, hi]
theorem any_mono {l : List RecD} {i : Nat} {t : Int} (h : (l.take i).any (isTx t) = true) : (l.take (i + 1)).any (isTx t) = true := by
  obtain ⟨x, hx, hp⟩ := List.any_eq_true.1 h
  exact List.any_eq_true.2 ⟨x, List.mem_of_mem_take (i := i) (by rw [List.take_take, Nat.min_eq_left (by omega)]; exact hx), hp⟩
theorem getD_mem {α : Type} {l : List α} {i : Nat} (h : i < l.length) (d : α) : l.getD i d ∈ l := by
  simp [List.getD_eq_getElem?_getD, h]
theorem RepOk.hone {l : List RecD} {i : Nat} {m : List PairD} {held : List RecD} (h : RepOk l i m held) : oneTx held := h.1
theorem RepOk.hmem {l : List RecD} {i : Nat} {m : List PairD} {held : List RecD} (h : RepOk l i m held) : ∀ x ∈ held, okOps x.2.2 = true ∧ (l.take i).any (isTx x.2.1) = true := h.2.1
theorem RepOk.hlen {l : List RecD} {i : Nat} {m : List PairD} {held : List RecD} (h : RepOk l i m held) : held.length ≤ i := h.2.2.1
theorem RepOk.hml {l : List RecD} {i : Nat} {m : List PairD} {held : List RecD} (h : RepOk l i m held) : m.length ≤ 60 := h.2.2.2
theorem step_ok {l : List RecD} {i : Nat} {m m' : List PairD} {held h' : List RecD} (hi : i < l.length) (hr : ∀ x ∈ l, okOps x.2.2 = true) (I : RepOk l i m held) (h : stepL ((l.take i).any (isTx (l.getD i dRec).2.1)) m held (l.getD i dRec) = some (m', h')) : RepOk l (i + 1) m' h' := by
  have hx : (l.take (i + 1)).any (isTx (l.getD i dRec).2.1) = true := by
    refine List.any_eq_true.2 ⟨l.getD i dRec, ?_, by simp [isTx]⟩
    rw [take_succ_getD hi dRec]; simp
  have sub : ∀ k, RepOk l (i + 1) m (held.eraseIdx k) := fun k => by
    have hsub : (held.eraseIdx k).Sublist held := List.eraseIdx_sublist _ _
    exact ⟨List.Nodup.sublist (hsub.map _) I.hone, fun x hx => ⟨(I.hmem x (hsub.subset hx)).1, any_mono (I.hmem x (hsub.subset hx)).2⟩, by have := hsub.length_le; have := I.hlen; omega, I.hml⟩
  simp only [stepL] at h
  cases hok : sRecOk (l.getD i dRec).1 (l.getD i dRec).2.1 (l.getD i dRec).2.2 with
  | false => rw [hok] at h; simp at h
  | true =>
    simp only [hok, Bool.not_true, cond_false] at h
    cases hk : ((l.getD i dRec).1 == 1) with
    | true =>
      simp only [hk, cond_true] at h
      cases hkn : (l.take i).any (isTx (l.getD i dRec).2.1) with
      | true => rw [hkn] at h; simp at h
      | false =>
        rw [hkn] at h
        cases hlk : lockedL held (l.getD i dRec).2.2 with
        | true => rw [hlk] at h; simp at h
        | false =>
          rw [hlk] at h
          cases hmt : meetsL m (l.getD i dRec).2.2 with
          | false => rw [hmt] at h; simp at h
          | true =>
            rw [hmt] at h
            simp only [Bool.not_true, cond_false, Option.some.injEq, Prod.mk.injEq] at h
            obtain ⟨rfl, rfl⟩ := h
            refine ⟨?_, fun x hm => ?_, by rw [List.length_append]; have := I.hlen; simp; omega, I.hml⟩
            · simp only [oneTx, List.map_append, List.map_cons, List.map_nil]
              rw [List.nodup_append]
              refine ⟨I.hone, by simp, fun a ha b hb => ?_⟩
              simp only [List.mem_singleton] at hb
              subst hb
              intro e
              obtain ⟨x, hx1, hx2⟩ := List.mem_map.1 ha
              have := (I.hmem x hx1).2
              rw [show x.2.1 = (l.getD i dRec).2.1 from hx2.trans e, hkn] at this
              cases this
            · rcases List.mem_append.1 hm with hm | hm
              · exact ⟨(I.hmem x hm).1, any_mono (I.hmem x hm).2⟩
              · simp only [List.mem_singleton] at hm
                subst hm
                have hq := hr _ (getD_mem hi dRec)
                exact ⟨hq, hx⟩
    | false =>
      simp only [hk, cond_false] at h
      cases ha : held.any (isTx (l.getD i dRec).2.1) with
      | false =>
        simp only [ha, Bool.not_false, cond_true] at h
        cases h3 : ((l.getD i dRec).1 == 3) with
        | false => rw [h3] at h; simp at h
        | true =>
          rw [h3] at h
          cases hkn : (l.take i).any (isTx (l.getD i dRec).2.1) with
          | true => rw [hkn] at h; simp at h
          | false =>
            rw [hkn] at h
            simp only [cond_true, cond_false, Option.some.injEq, Prod.mk.injEq] at h
            obtain ⟨rfl, rfl⟩ := h
            exact ⟨I.hone, fun x hx => ⟨(I.hmem x hx).1, any_mono (I.hmem x hx).2⟩, by have := I.hlen; omega, I.hml⟩
      | true =>
        simp only [ha, Bool.not_true, cond_false] at h
        cases h2 : ((l.getD i dRec).1 == 2) with
        | true =>
          simp only [h2, cond_true] at h
          by_cases hc : ((((held.getD (held.findIdx (isTx (l.getD i dRec).2.1)) dRec).2.2.foldl appL m).length : Nat) : Int) ≤ 60
          · rw [decide_eq_true hc] at h
            simp only [cond_true, Option.some.injEq, Prod.mk.injEq] at h
            obtain ⟨rfl, rfl⟩ := h
            have := sub (held.findIdx (isTx (l.getD i dRec).2.1))
            exact ⟨this.hone, this.hmem, this.hlen, by omega⟩
          · rw [decide_eq_false hc] at h; simp at h
        | false =>
          simp only [h2, cond_false] at h
          by_cases hc : ((m.length : Nat) : Int) ≤ 60
          · rw [decide_eq_true hc] at h
            simp only [cond_true, Option.some.injEq, Prod.mk.injEq] at h
            obtain ⟨rfl, rfl⟩ := h
            exact sub _
          · rw [decide_eq_false hc] at h; simp at h
theorem rep_ok {l : List RecD} (hr : ∀ x ∈ l, okOps x.2.2 = true) : ∀ i, i ≤ l.length → ∀ m held, repL l i = some (m, held) → RepOk l i m held := by
  intro i
  induction i with
  | zero =>
    intro _ m held h
    simp only [repL, Option.some.injEq, Prod.mk.injEq] at h
    obtain ⟨rfl, rfl⟩ := h
    exact ⟨by simp [oneTx], fun x hx => by simp at hx, by simp, by simp⟩
  | succ i ih =>
    intro hi m held h
    simp only [repL] at h
    cases hp : repL l i with
    | none => rw [hp] at h; cases h
    | some s =>
      rw [hp] at h
      exact step_ok (by omega) hr (ih (by omega) s.1 s.2 (by rw [hp])) h
/-- The first answer of places in order. -/
noncomputable def scanA {A : Type} (f : Nat → Option A) (last : A) : Nat → Nat → A
  | 0, _ => last
  | k + 1, i => match f i with
    | some a => a
    | none => scanA f last k (i + 1)
theorem itX_scan {V A : Type} {ss : V → V ⊕ A} {fa : A} (pk : Nat → V) (n : Nat) (f : Nat → Option A) (last : A) (hn : n < 4611686018427387904)
    (h : ∀ i, i < n → ss (pk i) = (match f i with | some a => .inr a | none => .inl (pk (i + 1)))) (hl : ss (pk n) = .inr last) : itX ss fa (pk 0) = scanA f last n 0 := by
  rw [itX_eq]
  have key : ∀ k N i, i + k = n → k < N → itN ss fa N (pk i) = scanA f last k i := by
    intro k
    induction k with
    | zero =>
      intro N i hi hN
      obtain ⟨M, rfl⟩ : ∃ M, N = M + 1 := ⟨N - 1, by omega⟩
      obtain rfl : i = n := by omega
      rw [itN_one, hl]; rfl
    | succ k ih =>
      intro N i hi hN
      obtain ⟨M, rfl⟩ : ∃ M, N = M + 1 := ⟨N - 1, by omega⟩
      rw [itN_one, h i (by omega)]
      simp only [scanA]
      cases hf : f i with
      | some a => rfl
      | none => exact ih M (i + 1) (by omega) (by omega)
  exact key n _ 0 (by omega) hn
theorem scanA_cases {A : Type} (f : Nat → Option A) (last : A) : ∀ k i, (∃ j a, i ≤ j ∧ j < i + k ∧ f j = some a ∧ (∀ m, i ≤ m → m < j → f m = none) ∧ scanA f last k i = a) ∨ ((∀ j, i ≤ j → j < i + k → f j = none) ∧ scanA f last k i = last) := by
  intro k
  induction k with
  | zero => intro i; exact .inr ⟨fun j h1 h2 => by omega, rfl⟩
  | succ k ih =>
    intro i
    simp only [scanA]
    cases hf : f i with
    | some a => exact .inl ⟨i, a, Nat.le_refl _, by omega, hf, fun m h1 h2 => by omega, rfl⟩
    | none =>
      rcases ih (i + 1) with ⟨j, a, h1, h2, h3, h4, h5⟩ | ⟨h1, h2⟩
      · refine .inl ⟨j, a, by omega, by omega, h3, fun m m1 m2 => ?_, h5⟩
        by_cases hm : m = i
        · rw [hm]; exact hf
        · exact h4 m (by omega) m2
      · refine .inr ⟨fun j j1 j2 => ?_, h2⟩
        by_cases hj : j = i
        · rw [hj]; exact hf
        · exact h1 j (by omega) (by omega)
theorem itX_find {V A α : Type} {ss : V → V ⊕ A} {fa : A} (pk : Nat → V) (l : List α) (d : α) (p : α → Bool) (good : Nat → A) (last : A) (hn : l.length < 4611686018427387904)
    (h : ∀ i, i < l.length → ss (pk i) = cond (p (l.getD i d)) (.inr (good i)) (.inl (pk (i + 1)))) (hl : ss (pk l.length) = .inr last) :
    itX ss fa (pk 0) = cond (decide (l.findIdx p < l.length)) (good (l.findIdx p)) last := by
  rw [itX_scan pk l.length (fun i => cond (p (l.getD i d)) (some (good i)) none) last hn (fun i hi => by rw [h i hi]; cases p (l.getD i d) <;> rfl) hl]
  rcases scanA_cases (fun i => cond (p (l.getD i d)) (some (good i)) none) last l.length 0 with ⟨j, a, h1, h2, h3, h4, h5⟩ | ⟨h1, h2⟩
  · have hj : j < l.length := by omega
    have hg : l.getD j d = l[j] := by simp [List.getD_eq_getElem?_getD, hj]
    have hp : p l[j] = true := by
      cases hc : p (l.getD j d) with
      | true => rw [hg] at hc; exact hc
      | false => simp only [hc, cond_false] at h3; cases h3
    have hf : l.findIdx p = j := by
      rw [List.findIdx_eq hj]
      refine ⟨hp, fun m hm => ?_⟩
      have := h4 m (by omega) hm
      have hgm : l.getD m d = l[m] := by simp [List.getD_eq_getElem?_getD, Nat.lt_trans hm hj]
      rw [← hgm]
      cases hc : p (l.getD m d) with
      | false => rfl
      | true => simp only [hc, cond_true] at this; cases this
    rw [h5, hf, decide_eq_true hj]
    rw [hg, hp] at h3
    exact (Option.some.inj h3).symm
  · have hf : ¬ l.findIdx p < l.length := by
      intro hlt
      have hp := List.findIdx_getElem (w := hlt)
      have := h1 (l.findIdx p) (by omega) (by omega)
      have hg : l.getD (l.findIdx p) d = l[l.findIdx p] := by simp [List.getD_eq_getElem?_getD, hlt]
      rw [hg, hp] at this
      cases this
    rw [h2, decide_eq_false hf]; rfl
theorem getD_dR (l : List RecD) (i : Nat) : l.getD i ((0 : Int), ((0 : Int), [])) = l.getD i dRec := rfl
theorem l8At_spec (l : List RecD) (t : Int) (hl : l.length ≤ 1099511627776) : q_sl8At l t = true ∧ sl8At l t = cond (decide (l.findIdx (isTx t) < l.length)) ((l.findIdx (isTx t) : Nat) : Int) (-1) := by
  have e : it_sl8At_0 l t 0 = cond (decide (l.findIdx (isTx t) < l.length)) (0, ((l.findIdx (isTx t) : Nat) : Int)) (1, 0) := by
    refine itX_find (ss := fun v : V_sl8At_0 => ss_sl8At_0 v.1 v.2.1 v.2.2) (fa := fl_sl8At_0) (fun i => ((l, t, (i : Int)) : V_sl8At_0)) l dRec (isTx t) (fun i => ((0, (i : Int)) : A_sl8At_0)) _ (by omega) (fun i hi => ?_) ?_
    · have h1 : decide ((i : Int) < ((l.length : Nat) : Int)) = true := decide_eq_true (by omega)
      have h2 : decide (0 ≤ (i : Int) ∧ (i : Int) < ((l.length : Nat) : Int)) = true := decide_eq_true (by omega)
      simp only [ss_sl8At_0, h1, h2, cond_true, Int.toNat_natCast, wrapU i (by omega), getD_dR, isTx]
    · have h1 : decide (((l.length : Nat) : Int) < ((l.length : Nat) : Int)) = false := decide_eq_false (by omega)
      simp only [ss_sl8At_0, h1, cond_false]
  simp only [q_sl8At, sl8At, e]
  cases decide (l.findIdx (isTx t) < l.length) <;> exact ⟨rfl, rfl⟩
theorem l8At_neg (l : List RecD) (t : Int) (hl : l.length ≤ 1099511627776) : decide (sl8At l t < 0) = !(l.any (isTx t)) := by
  rw [(l8At_spec l t hl).2]
  cases ha : l.any (isTx t) with
  | true =>
    rw [decide_eq_true (List.findIdx_lt_length.2 (List.any_eq_true.1 ha))]
    exact decide_eq_false (by simp only [cond_true]; omega)
  | false =>
    have : ¬ l.findIdx (isTx t) < l.length := by
      intro hc
      obtain ⟨x, hx, hp⟩ := List.findIdx_lt_length.1 hc
      rw [List.any_eq_true.2 ⟨x, hx, hp⟩] at ha
      cases ha
    rw [decide_eq_false this]
    rfl
theorem l7Has_spec {l : List Int} (hl : l.length ≤ 1048576) (x : Int) : q_sl7Has l x = true ∧ sl7Has l x = decide (x ∈ l) := by
  have key : it_sl7Has_0 l x 0 = (0, true) ∧ x ∈ l ∨ it_sl7Has_0 l x 0 = (1, false) ∧ x ∉ l := by
    refine itX_inv (fun v : V_sl7Has_0 => ∃ i : Nat, v = (l, x, (i : Int)) ∧ i ≤ l.length ∧ x ∉ l.take i) (fun a : A_sl7Has_0 => a = (0, true) ∧ x ∈ l ∨ a = (1, false) ∧ x ∉ l) (fun v => l.length - v.2.2.toNat) ?_ ⟨0, rfl, Nat.zero_le _, by simp⟩ (by simp; omega)
    rintro v ⟨i, rfl, hi, hx⟩
    by_cases hlt : i < l.length
    · have e1 : decide ((i : Int) < ((l.length : Nat) : Int)) = true := decide_eq_true (by omega)
      have e2 : decide (0 ≤ (i : Int) ∧ (i : Int) < ((l.length : Nat) : Int)) = true := decide_eq_true (by omega)
      simp only [ss_sl7Has_0, e1, e2, cond_true, Int.toNat_natCast, wrapU i (by omega)]
      cases hc : (l.getD i 0 == x) with
      | true => exact .inr ⟨_, rfl, .inl ⟨rfl, by have := getD_mem hlt 0; simp only [beq_iff_eq] at hc; rw [hc] at this; exact this⟩⟩
      | false =>
        refine .inl ⟨_, rfl, ⟨i + 1, rfl, by omega, ?_⟩, by simp only [Int.toNat_natCast]; omega⟩
        rw [take_succ_getD hlt 0]
        simp only [beq_eq_false_iff_ne] at hc
        simp only [List.mem_append, List.mem_singleton, not_or]
        exact ⟨hx, fun h => hc h.symm⟩
    · obtain rfl : i = l.length := by omega
      have e1 : decide ((l.length : Int) < ((l.length : Nat) : Int)) = false := decide_eq_false (by omega)
      simp only [ss_sl7Has_0, e1, cond_false]
      rw [List.take_length] at hx
      exact .inr ⟨_, rfl, .inr ⟨rfl, hx⟩⟩
  simp only [q_sl7Has, sl7Has]
  rcases key with ⟨h1, h2⟩ | ⟨h1, h2⟩
  · rw [h1, decide_eq_true h2]; exact ⟨rfl, rfl⟩
  · rw [h1, decide_eq_false h2]; exact ⟨rfl, rfl⟩
theorem itX_any {V A α : Type} {ss : V → V ⊕ A} {fa : A} (pk : Nat → V) (l : List α) (d : α) (p : α → Bool) (good last : A) (hn : l.length < 4611686018427387904)
    (h : ∀ i, i < l.length → ss (pk i) = cond (p (l.getD i d)) (.inr good) (.inl (pk (i + 1)))) (hl : ss (pk l.length) = .inr last) : itX ss fa (pk 0) = cond (l.any p) good last := by
  rw [itX_find pk l d p (fun _ => good) last hn h hl]
  cases ha : l.any p with
  | true => rw [decide_eq_true (List.findIdx_lt_length.2 (List.any_eq_true.1 ha))]
  | false =>
    rw [decide_eq_false]
    intro hc
    obtain ⟨x, hx, hp⟩ := List.findIdx_lt_length.1 hc
    rw [List.any_eq_true.2 ⟨x, hx, hp⟩] at ha
    cases ha
theorem getD_dO (l : LIBBe) (i : Nat) : l.getD i ((0 : Int), ((⟨#[]⟩ : ByteArray), (⟨#[]⟩ : ByteArray))) = l.getD i dOp := rfl
theorem locked_in (held : List RecD) (ops : LIBBe) (i k : Nat) (hi : i < held.length) (hk : k < (held.getD i dRec).2.2.length) (ho : ops.length ≤ 1048576) :
    it_sl8Locked_2 held ops (i : Int) (k : Int) 0 = cond (keyAny ((held.getD i dRec).2.2.getD k dOp).2.1 ops) (0, true, [], [], 0, 0) (1, false, held, ops, (i : Int), (k : Int)) := by
  refine itX_any (ss := fun v : V_sl8Locked_2 => ss_sl8Locked_2 v.1 v.2.1 v.2.2.1 v.2.2.2.1 v.2.2.2.2) (fa := fl_sl8Locked_2) (fun m => ((held, ops, (i : Int), (k : Int), (m : Int)) : V_sl8Locked_2)) ops dOp (fun x => ((held.getD i dRec).2.2.getD k dOp).2.1.toList == x.2.1.toList) _ _ (by omega) (fun m hm => ?_) ?_
  · have h1 : decide ((m : Int) < ((ops.length : Nat) : Int)) = true := decide_eq_true (by omega)
    have h2 : decide (0 ≤ (i : Int) ∧ (i : Int) < ((held.length : Nat) : Int)) = true := decide_eq_true (by omega)
    have h3 : decide (0 ≤ (k : Int) ∧ (k : Int) < (((held.getD (i : Int).toNat ((0 : Int), ((0 : Int), []))).2.2.length : Nat) : Int)) = true := decide_eq_true (show 0 ≤ (k : Int) ∧ (k : Int) < (((held.getD i dRec).2.2.length : Nat) : Int) by omega)
    have h4 : decide (0 ≤ (m : Int) ∧ (m : Int) < ((ops.length : Nat) : Int)) = true := decide_eq_true (by omega)
    show ss_sl8Locked_2 held ops (i : Int) (k : Int) (m : Int) = _
    simp only [ss_sl8Locked_2, h1, h2, h3, h4, cond_true]
    simp only [getD_dR, getD_dO, Int.toNat_natCast, wrapU m (by omega)]
  · have h1 : decide (((ops.length : Nat) : Int) < ((ops.length : Nat) : Int)) = false := decide_eq_false (by omega)
    simp only [ss_sl8Locked_2, h1, cond_false]
theorem locked_mid (held : List RecD) (ops : LIBBe) (i : Nat) (hi : i < held.length) (hk : (held.getD i dRec).2.2.length ≤ 1048576) (ho : ops.length ≤ 1048576) :
    it_sl8Locked_1 held ops (i : Int) 0 = cond (keysAny (held.getD i dRec).2.2 ops) (0, true, [], [], 0) (1, false, held, ops, (i : Int)) := by
  have h2 : decide (0 ≤ (i : Int) ∧ (i : Int) < ((held.length : Nat) : Int)) = true := decide_eq_true (by omega)
  refine itX_any (ss := fun v : V_sl8Locked_1 => ss_sl8Locked_1 v.1 v.2.1 v.2.2.1 v.2.2.2) (fa := fl_sl8Locked_1) (fun k => ((held, ops, (i : Int), (k : Int)) : V_sl8Locked_1)) (held.getD i dRec).2.2 dOp (fun o => keyAny o.2.1 ops) _ _ (by omega) (fun k hk2 => ?_) ?_
  · have h1 : decide ((k : Int) < (((held.getD (i : Int).toNat ((0 : Int), ((0 : Int), []))).2.2.length : Nat) : Int)) = true := decide_eq_true (show (k : Int) < (((held.getD i dRec).2.2.length : Nat) : Int) by omega)
    show ss_sl8Locked_1 held ops (i : Int) (k : Int) = _
    simp only [ss_sl8Locked_1, h1, h2, cond_true, locked_in held ops i k hi hk2 ho]
    cases keyAny ((held.getD i dRec).2.2.getD k dOp).2.1 ops
    · simp only [cond_false, wrapU k (by omega)]; rfl
    · rfl
  · have h1 : decide ((((held.getD i dRec).2.2.length : Nat) : Int) < (((held.getD (i : Int).toNat ((0 : Int), ((0 : Int), []))).2.2.length : Nat) : Int)) = false := decide_eq_false (show ¬ (((held.getD i dRec).2.2.length : Nat) : Int) < (((held.getD i dRec).2.2.length : Nat) : Int) by omega)
    show ss_sl8Locked_1 held ops (i : Int) (((held.getD i dRec).2.2.length : Nat) : Int) = _
    simp only [ss_sl8Locked_1, h1, h2, cond_true, cond_false]
theorem locked_spec (held : List RecD) (ops : LIBBe) (hl : held.length ≤ 1099511627776) (hh : ∀ r ∈ held, r.2.2.length ≤ 1048576) (ho : ops.length ≤ 1048576) : q_sl8Locked held ops = true ∧ sl8Locked held ops = lockedL held ops := by
  have e : it_sl8Locked_0 held ops 0 = cond (lockedL held ops) (0, true) (1, false) := by
    refine itX_any (ss := fun v : V_sl8Locked_0 => ss_sl8Locked_0 v.1 v.2.1 v.2.2) (fa := fl_sl8Locked_0) (fun i => ((held, ops, (i : Int)) : V_sl8Locked_0)) held dRec (fun r => keysAny r.2.2 ops) _ _ (by omega) (fun i hi => ?_) ?_
    · have h1 : decide ((i : Int) < ((held.length : Nat) : Int)) = true := decide_eq_true (by omega)
      simp only [ss_sl8Locked_0, h1, cond_true, locked_mid held ops i hi (hh _ (getD_mem hi dRec)) ho]
      cases keysAny (held.getD i dRec).2.2 ops
      · simp only [cond_false, wrapU i (by omega)]; rfl
      · rfl
    · have h1 : decide (((held.length : Nat) : Int) < ((held.length : Nat) : Int)) = false := decide_eq_false (by omega)
      simp only [ss_sl8Locked_0, h1, cond_false]
  simp only [q_sl8Locked, sl8Locked, e]
  cases lockedL held ops <;> exact ⟨rfl, rfl⟩
noncomputable def getL (l : LBBe) (k : ByteArray) : Option ByteArray := (l.find? (isK k)).map (·.2)
theorem getD_dP (l : LBBe) (i : Nat) : l.getD i ((⟨#[]⟩ : ByteArray), (⟨#[]⟩ : ByteArray)) = l.getD i dP := rfl
theorem find_idx {α : Type} (p : α → Bool) (d : α) : ∀ l : List α, l.find? p = cond (decide (l.findIdx p < l.length)) (some (l.getD (l.findIdx p) d)) none
  | [] => by simp
  | x :: l => by
    have ih := find_idx p d l
    cases h : p x with
    | true => simp [List.find?_cons, List.findIdx_cons, h]
    | false =>
      simp only [List.find?_cons, List.findIdx_cons, h, List.length_cons, cond_false, List.getD_cons_succ]
      rw [ih]
      by_cases hl : l.findIdx p < l.length
      · rw [decide_eq_true hl, decide_eq_true (show l.findIdx p + 1 < l.length + 1 by omega)]
      · rw [decide_eq_false hl, decide_eq_false (show ¬ l.findIdx p + 1 < l.length + 1 by omega)]
theorem sGetKey_spec (l : LBBe) (k : ByteArray) (hl : l.length ≤ 1099511627776) : q_sGetKey l k = true ∧ sGetKey l k = (match getL l k with | some v => (v, true) | none => ((⟨#[]⟩ : ByteArray), false)) := by
  have e : it_sGetKey_0 l k 0 = cond (decide (l.findIdx (isK k) < l.length)) (0, (l.getD (l.findIdx (isK k)) dP).2, true) (1, (⟨#[]⟩ : ByteArray), false) := by
    refine itX_find (ss := fun v : V_sGetKey_0 => ss_sGetKey_0 v.1 v.2.1 v.2.2) (fa := fl_sGetKey_0) (fun i => ((l, k, (i : Int)) : V_sGetKey_0)) l dP (isK k) (fun i => ((0, (l.getD i dP).2, true) : A_sGetKey_0)) _ (by omega) (fun i hi => ?_) ?_
    · have h1 : decide ((i : Int) < ((l.length : Nat) : Int)) = true := decide_eq_true (by omega)
      have h2 : decide (0 ≤ (i : Int) ∧ (i : Int) < ((l.length : Nat) : Int)) = true := decide_eq_true (by omega)
      simp only [ss_sGetKey_0, h1, h2, cond_true, Int.toNat_natCast, wrapU i (by omega), getD_dP, isK]
    · have h1 : decide (((l.length : Nat) : Int) < ((l.length : Nat) : Int)) = false := decide_eq_false (by omega)
      simp only [ss_sGetKey_0, h1, cond_false]
  simp only [q_sGetKey, sGetKey, e, getL, find_idx (isK k) dP l]
  cases decide (l.findIdx (isK k) < l.length) <;> exact ⟨rfl, rfl⟩
theorem sMeets_spec (m : LBBe) (ops : LIBBe) (hm : m.length ≤ 1099511627776) (ho : ops.length ≤ 1048576) : q_sMeets m ops = true ∧ sMeets m ops = meetsL m ops := by
  have e : it_sMeets_0 m ops 0 = cond (ops.any (misses m)) (0, false) (1, false) := by
    refine itX_any (ss := fun v : V_sMeets_0 => ss_sMeets_0 v.1 v.2.1 v.2.2) (fa := fl_sMeets_0) (fun i => ((m, ops, (i : Int)) : V_sMeets_0)) ops dOp (misses m) _ _ (by omega) (fun i hi => ?_) ?_
    · have h1 : decide ((i : Int) < ((ops.length : Nat) : Int)) = true := decide_eq_true (by omega)
      have h2 : decide (0 ≤ (i : Int) ∧ (i : Int) < ((ops.length : Nat) : Int)) = true := decide_eq_true (by omega)
      simp only [ss_sMeets_0, k1_sMeets, getD_dO, Int.toNat_natCast, h1, h2, cond_true, wrapU i (by omega), (sGetKey_spec m _ hm).1, misses]
      generalize ((ops.getD i dOp).1 != 3) = a
      generalize (!((sGetKey m (ops.getD i dOp).2.1).2 == (!((ops.getD i dOp).2.2.toList == (⟨#[]⟩ : ByteArray).toList)))) = b
      generalize (!((sGetKey m (ops.getD i dOp).2.1).1.toList == (ops.getD i dOp).2.2.toList)) = c
      cases a <;> cases b <;> cases c <;> rfl
    · have h1 : decide (((ops.length : Nat) : Int) < ((ops.length : Nat) : Int)) = false := decide_eq_false (by omega)
      simp only [ss_sMeets_0, h1, cond_false]
  simp only [q_sMeets, sMeets, e, meetsL]
  cases ops.any (misses m) <;> exact ⟨rfl, rfl⟩
theorem drop_take_all {α : Type} (l : List α) (k : Nat) : (l.drop k).take (l.length - k) = l.drop k := List.take_of_length_le (by simp)
theorem itX_fold {V A α β : Type} {ss : V → V ⊕ A} {fa : A} (pk : Nat → β → V) (l : List α) (d : α) (f : β → α → β) (last : β → A) (ok : Nat → β → Prop) (hn : l.length < 4611686018427387904)
    (h : ∀ i b, i < l.length → ok i b → ss (pk i b) = .inl (pk (i + 1) (f b (l.getD i d))) ∧ ok (i + 1) (f b (l.getD i d))) (hl : ∀ b, ok l.length b → ss (pk l.length b) = .inr (last b)) {b : β} (h0 : ok 0 b) : itX ss fa (pk 0 b) = last (l.foldl f b) := by
  rw [itX_eq]
  have key : ∀ k N i b, i + k = l.length → k < N → ok i b → itN ss fa N (pk i b) = last ((l.drop i).foldl f b) := by
    intro k
    induction k with
    | zero =>
      intro N i b hi hN ho
      obtain ⟨M, rfl⟩ : ∃ M, N = M + 1 := ⟨N - 1, by omega⟩
      obtain rfl : i = l.length := by omega
      rw [itN_one, hl b ho, List.drop_length]; rfl
    | succ k ih =>
      intro N i b hi hN ho
      obtain ⟨M, rfl⟩ : ∃ M, N = M + 1 := ⟨N - 1, by omega⟩
      have hlt : i < l.length := by omega
      obtain ⟨h1, h2⟩ := h i b hlt ho
      rw [itN_one, h1]
      simp only
      rw [ih M (i + 1) _ (by omega) (by omega) h2, List.drop_eq_getElem_cons hlt, List.foldl_cons]
      simp [List.getD_eq_getElem?_getD, hlt]
  have := key l.length _ 0 b (by omega) hn h0
  simpa using this
theorem delL_len (l : LBBe) (k : ByteArray) : (delL l k).length ≤ l.length := List.length_filter_le _ _
theorem findIdx_le' {α : Type} (p : α → Bool) (l : List α) : l.findIdx p ≤ l.length := List.findIdx_le_length
theorem putL_len (l : LBBe) (k v : ByteArray) : (putL l k v).length ≤ l.length + 1 := by
  simp only [putL]
  cases decide (l.findIdx (isK k) < l.length)
  · have := findIdx_le' (overK k) l
    simp only [cond_false, List.length_append, List.length_take, List.length_cons, List.length_drop]; omega
  · simp
theorem appL_len (l : LBBe) (o : Int × ByteArray × ByteArray) : (appL l o).length ≤ l.length + 1 := by
  simp only [appL]
  cases o.1 == 1
  · cases o.1 == 2
    · simp
    · have := delL_len l o.2.1; simp only [cond_true, cond_false]; omega
  · exact putL_len _ _ _
theorem sPutKey_spec (l : LBBe) (k v : ByteArray) (hl : l.length ≤ 1099511627776) : q_sPutKey l k v = true ∧ sPutKey l k v = putL l k v := by
  have hlt : ∀ i : Nat, i < l.length → decide ((i : Int) < ((l.length : Nat) : Int)) = true ∧ decide (0 ≤ (i : Int) ∧ (i : Int) < ((l.length : Nat) : Int)) = true := fun i hi => ⟨decide_eq_true (by omega), decide_eq_true (by omega)⟩
  have hge : decide (((l.length : Nat) : Int) < ((l.length : Nat) : Int)) = false := decide_eq_false (by omega)
  have e0 : it_sPutKey_0 l k v 0 l = cond (decide (l.findIdx (isK k) < l.length)) (0, l.set (l.findIdx (isK k)) ((l.getD (l.findIdx (isK k)) dP).1, v), ([] : LBBe), (⟨#[]⟩ : ByteArray), (⟨#[]⟩ : ByteArray)) (1, ([] : LBBe), l, k, v) := by
    refine itX_find (ss := fun v : V_sPutKey_0 => ss_sPutKey_0 v.1 v.2.1 v.2.2.1 v.2.2.2.1 v.2.2.2.2) (fa := fl_sPutKey_0) (fun i => ((l, k, v, (i : Int), l) : V_sPutKey_0)) l dP (isK k) (fun i => ((0, l.set i ((l.getD i dP).1, v), [], ⟨#[]⟩, ⟨#[]⟩) : A_sPutKey_0)) _ (by omega) (fun i hi => ?_) ?_
    · obtain ⟨h1, h2⟩ := hlt i hi
      simp only [ss_sPutKey_0, h1, h2, cond_true, Int.toNat_natCast, wrapU i (by omega), getD_dP]
      rfl
    · simp only [ss_sPutKey_0, hge, cond_false]
  have e1 : it_sPutKey_1 l k v 0 = (0, l, k, v, ((l.findIdx (overK k) : Nat) : Int)) := by
    have h := itX_find (ss := fun v : V_sPutKey_1 => ss_sPutKey_1 v.1 v.2.1 v.2.2.1 v.2.2.2) (fa := fl_sPutKey_1) (fun i => ((l, k, v, (i : Int)) : V_sPutKey_1)) l dP (overK k) (fun i => (0, l, k, v, (i : Int))) (0, l, k, v, ((l.length : Nat) : Int)) (by omega) (fun i hi => ?_) ?_
    · refine h.trans ?_
      by_cases hc : l.findIdx (overK k) < l.length
      · rw [decide_eq_true hc]; rfl
      · have := findIdx_le' (overK k) l
        have he : l.findIdx (overK k) = l.length := by omega
        rw [decide_eq_false hc, he]; rfl
    · obtain ⟨h1, h2⟩ := hlt i hi
      simp only [ss_sPutKey_1, h1, h2, cond_true, Int.toNat_natCast, wrapU i (by omega), getD_dP, overK]
      cases (Op.bytesLess (l.getD i dP).1.toList k.toList || (l.getD i dP).1.toList == k.toList) <;> rfl
    · simp only [ss_sPutKey_1, hge, cond_false]
  have hle := findIdx_le' (overK k) l
  simp only [q_sPutKey, sPutKey, k1_sPutKey, List.nil_append, e0]
  cases hc : decide (l.findIdx (isK k) < l.length) with
  | true =>
    simp only [cond_true, putL, hc]
    refine ⟨?_, rfl⟩
    have e : decide ((([] : LBBe).length + l.length) * 32 ≤ MAXB) = true := decide_eq_true (by simp [MAXB]; omega)
    rw [e]; rfl
  | false =>
    have f1 : ((1 : Nat) == 0) = false := rfl
    have f2 : ((1 : Nat) == 1) = true := rfl
    have f3 : ((0 : Nat) == 0) = true := rfl
    simp only [cond_false, f1, f2, f3, e1, putL, hc, Int.toNat_natCast, Bool.true_and, Int.toNat_zero, List.drop_zero, List.take_length]
    refine ⟨?_, by rw [List.append_assoc]; rfl⟩
    simp only [Bool.and_eq_true, decide_eq_true_eq, MAXB, List.length_nil, List.length_take, List.length_append, List.length_cons, List.length_drop]
    refine ⟨decide_eq_true (by omega), ?_, ?_, ?_, ?_, ?_⟩ <;> omega
theorem sDelKey_spec (l : LBBe) (k : ByteArray) (hl : l.length ≤ 1099511627776) : q_sDelKey l k = true ∧ sDelKey l k = delL l k := by
  have h : it_sDelKey_0 l k 0 [] = (0, delL l k) := by
    refine itX_of (fun v : V_sDelKey_0 => ∃ i : Nat, v = (l, k, (i : Int), (l.take i).filter (fun p => !isK k p)) ∧ i ≤ l.length) (fun v => (0, v.2.2.2 ++ (l.drop v.2.2.1.toNat).filter (fun p => !isK k p))) (fun v => l.length - v.2.2.1.toNat) (fun v hv => ?_) ⟨0, rfl, by omega⟩ (by simp; omega)
    obtain ⟨i, rfl, hi⟩ := hv
    by_cases hlt : i < l.length
    · left
      have h1 : decide ((i : Int) < ((l.length : Nat) : Int)) = true := decide_eq_true (by omega)
      have h2 : decide (0 ≤ (i : Int) ∧ (i : Int) < ((l.length : Nat) : Int)) = true := decide_eq_true (by omega)
      have hfl := List.length_filter_le (fun p => !isK k p) (l.take i)
      rw [List.length_take] at hfl
      have h3 : ∀ x : ByteArray × ByteArray, decide ((((l.take i).filter (fun p => !isK k p)).length + [x].length) * 32 ≤ MAXB) = true := fun x => decide_eq_true (by simp only [MAXB, List.length_singleton]; omega)
      have hd : l.drop i = l.getD i dP :: l.drop (i + 1) := by rw [List.drop_eq_getElem_cons hlt]; simp [List.getD_eq_getElem?_getD, hlt]
      have ht : l.take (i + 1) = l.take i ++ [l.getD i dP] := take_succ_getD hlt dP
      refine ⟨(l, k, ((i + 1 : Nat) : Int), (l.take (i + 1)).filter (fun p => !isK k p)), ?_, ⟨i + 1, rfl, by omega⟩, ?_, by simp only [Int.toNat_natCast]; omega⟩
      · simp only [ss_sDelKey_0, h1, h2, h3, cond_true, Int.toNat_natCast, wrapU i (by omega), getD_dP, ht, List.filter_append, List.filter_cons, List.filter_nil]
        show cond (!isK k (l.getD i dP)) _ _ = _
        cases isK k (l.getD i dP) <;> simp
      · simp only [Int.toNat_natCast, ht, hd, List.filter_append, List.filter_cons, List.filter_nil]
        cases isK k (l.getD i dP) <;> simp
    · right
      obtain rfl : i = l.length := by omega
      have h1 : decide (((l.length : Nat) : Int) < ((l.length : Nat) : Int)) = false := decide_eq_false (by omega)
      simp only [ss_sDelKey_0, h1, cond_false, Int.toNat_natCast, List.drop_length, List.filter_nil, List.append_nil]
  exact ⟨by simp only [q_sDelKey, h]; rfl, by simp only [sDelKey, h]⟩
theorem sApply_spec (m : LBBe) (l : LIBBe) (hm : m.length ≤ 1000000000) (hl : l.length ≤ 1000000000) : q_sApply m l = true ∧ sApply m l = l.foldl appL m := by
  have h : it_sApply_0 l 0 m = (0, l.foldl appL m) := by
    refine itX_fold (ss := fun v : V_sApply_0 => ss_sApply_0 v.1 v.2.1 v.2.2) (fa := fl_sApply_0) (fun i b => ((l, (i : Int), b) : V_sApply_0)) l dOp appL (fun b => ((0, b) : A_sApply_0)) (fun i b => b.length ≤ m.length + i) (by omega) (fun i b hi hb => ⟨?_, by have := appL_len b (l.getD i dOp); omega⟩) (fun b hb => ?_) (by simp)
    · have h1 : decide ((i : Int) < ((l.length : Nat) : Int)) = true := decide_eq_true (by omega)
      have h2 : decide (0 ≤ (i : Int) ∧ (i : Int) < ((l.length : Nat) : Int)) = true := decide_eq_true (by omega)
      have e : l.getD i ((0 : Int), ((⟨#[]⟩ : ByteArray), (⟨#[]⟩ : ByteArray))) = l.getD i dOp := rfl
      obtain ⟨p1, p2⟩ := sPutKey_spec b (l.getD i dOp).2.1 (l.getD i dOp).2.2 (by omega)
      obtain ⟨d1, d2⟩ := sDelKey_spec b (l.getD i dOp).2.1 (by omega)
      simp only [ss_sApply_0, h1, h2, cond_true, Int.toNat_natCast, wrapU i (by omega), e, k1_sApply, k2_sApply, p1, p2, d1, d2, appL]
      cases (l.getD i dOp).1 == 1 <;> cases (l.getD i dOp).1 == 2 <;> rfl
    · have h1 : decide (((l.length : Nat) : Int) < ((l.length : Nat) : Int)) = false := decide_eq_false (by omega)
      simp only [ss_sApply_0, h1, cond_false]
  have hq : decide ((([] : LBBe).length + m.length) * 32 ≤ MAXB) = true := decide_eq_true (by simp [MAXB]; omega)
  simp only [q_sApply, sApply, List.nil_append, h, hq]
  exact ⟨rfl, trivial⟩
theorem one_spec (r : RecD) (m : List PairD) (held : List RecD) (seen : List Int) (hr : okOps r.2.2 = true) (hm : m.length ≤ 1000) (hh : held.length ≤ 1048576) (ho : ∀ x ∈ held, okOps x.2.2 = true) (hs : seen.length ≤ 1048576) :
    q_sl8One_w1 r.1 r.2.1 r.2.2 m held seen = true ∧ (match stepL (decide (r.2.1 ∈ seen)) m held r with
      | none => (sl8One_w1 r.1 r.2.1 r.2.2 m held seen).1 = false
      | some (m', h') => ∃ s', sl8One_w1 r.1 r.2.1 r.2.2 m held seen = (true, m', h', s') ∧ (s' = seen ++ [r.2.1] ∨ s' = seen ∧ held.any (isTx r.2.1) = true)) := by
  have a1 := (l8At_spec held r.2.1 (by omega)).1
  have a2 := l8At_neg held r.2.1 (by omega)
  have hl := okOps_len hr
  obtain ⟨b1, b2⟩ := l7Has_spec hs r.2.1
  obtain ⟨c1, c2⟩ := locked_spec held r.2.2 (by omega) (fun x hx => okOps_len (ho x hx)) hl
  obtain ⟨d1, d2⟩ := sMeets_spec m r.2.2 (by omega) hl
  have f1 : decide ((held.length + [(r.1, (r.2.1, r.2.2))].length) * 40 ≤ MAXB) = true := decide_eq_true (by simp only [List.length_singleton, MAXB]; omega)
  have f2 : decide ((seen.length + [r.2.1].length) * 8 ≤ MAXB) = true := decide_eq_true (by simp only [List.length_singleton, MAXB]; omega)
  have f3 : q_sl8CopyRec r.1 r.2.1 r.2.2 = true := decide_eq_true (by simp only [List.length_nil, MAXB]; omega)
  have f4 : sl8CopyRec r.1 r.2.1 r.2.2 = (r.1, r.2.1, r.2.2) := rfl
  have g0 : q_sRecOk r.1 r.2.1 r.2.2 = true := hr
  simp only [q_sl8One_w1, sl8One_w1, stepL, a1, a2, b1, b2, c1, c2, d1, d2, f2, f3, f4, g0, Bool.true_and, Bool.and_true]
  cases hok : sRecOk r.1 r.2.1 r.2.2 with
  | false => exact ⟨rfl, rfl⟩
  | true =>
    simp only [Bool.not_true, cond_false]
    cases hk : (r.1 == 1) with
    | true =>
      have hk1 : r.1 = 1 := by simpa using hk
      simp only [cond_true]
      cases decide (r.2.1 ∈ seen) with
      | true => exact ⟨rfl, rfl⟩
      | false =>
        cases lockedL held r.2.2 with
        | true => exact ⟨rfl, rfl⟩
        | false =>
          cases meetsL m r.2.2 with
          | false => exact ⟨rfl, rfl⟩
          | true => exact ⟨f1, _, by rw [hk1]; rfl, .inl rfl⟩
    | false =>
      simp only [cond_false]
      cases ha : held.any (isTx r.2.1) with
      | false =>
        simp only [Bool.not_false, cond_true]
        cases (r.1 == 3) with
        | false => exact ⟨rfl, rfl⟩
        | true => cases decide (r.2.1 ∈ seen) with
          | true => exact ⟨rfl, rfl⟩
          | false => exact ⟨rfl, _, rfl, .inl rfl⟩
      | true =>
        have hlt := List.findIdx_lt_length.2 (List.any_eq_true.1 ha)
        have e1 : sl8At held r.2.1 = ((held.findIdx (isTx r.2.1) : Nat) : Int) := by rw [(l8At_spec held r.2.1 (by omega)).2, decide_eq_true hlt]; rfl
        generalize hi : held.findIdx (isTx r.2.1) = i at hlt e1 ⊢
        have e2 := wrapU i (by omega)
        have e3 := drop_take_all held (i + 1)
        have e4 : [] ++ held.take i ++ held.drop (i + 1) = held.eraseIdx i := by rw [List.nil_append, List.eraseIdx_eq_take_drop_succ]
        have q0 : decide (0 ≤ (i : Int) ∧ (i : Int) < ((held.length : Nat) : Int)) = true := decide_eq_true (by omega)
        have q1 : decide (0 ≤ (0 : Int) ∧ (0 : Int) ≤ (i : Int) ∧ (i : Int) ≤ ((held.length : Nat) : Int)) = true := decide_eq_true (by omega)
        have q2 : decide (0 ≤ ((i + 1 : Nat) : Int) ∧ ((i + 1 : Nat) : Int) ≤ ((held.length : Nat) : Int) ∧ ((held.length : Nat) : Int) ≤ ((held.length : Nat) : Int)) = true := decide_eq_true (by omega)
        have q3 : decide ((([] : List RecD).length + (held.take i).length) * 40 ≤ MAXB) = true := decide_eq_true (by simp only [List.length_nil, List.length_take, MAXB]; omega)
        have q4 : decide ((([] ++ held.take i).length + (held.drop (i + 1)).length) * 40 ≤ MAXB) = true := decide_eq_true (by simp only [List.nil_append, List.length_drop, List.length_take, MAXB]; omega)
        obtain ⟨s1, s2⟩ := sApply_spec m (held.getD i dRec).2.2 (by omega) (by have := okOps_len (ho _ (getD_mem hlt dRec)); omega)
        simp only [Bool.not_true, cond_false, e1, e2, Int.toNat_natCast, e3, e4, q0, q1, q2, q3, q4, getD_dR, s1, s2, Bool.true_and, Bool.and_true]
        cases (r.1 == 2) with
        | true =>
          simp only [cond_true]
          refine ⟨trivial, ?_⟩
          cases decide (((((held.getD i dRec).2.2.foldl appL m).length : Nat) : Int) ≤ 60) with
          | true => exact ⟨_, rfl, .inr ⟨rfl, trivial⟩⟩
          | false => rfl
        | false =>
          simp only [cond_false]
          refine ⟨trivial, ?_⟩
          cases decide (((m.length : Nat) : Int) ≤ 60) with
          | true => exact ⟨_, rfl, .inr ⟨rfl, trivial⟩⟩
          | false => rfl
theorem repL_none {l : List RecD} {i : Nat} (h : repL l i = none) : ∀ k, repL l (i + k) = none := by
  intro k
  induction k with
  | zero => exact h
  | succ k ih => rw [Nat.add_succ]; simp only [repL, ih, Option.bind_none]
theorem rep_stop {l : List RecD} {i : Nat} (hi : i < l.length) {m : List PairD} {held : List RecD} (hp : repL l i = some (m, held)) (hs : stepL ((l.take i).any (isTx (l.getD i dRec).2.1)) m held (l.getD i dRec) = none) : repL l l.length = none := by
  have h1 : repL l (i + 1) = none := by simp only [repL, hp, Option.bind_some]; exact hs
  have := repL_none h1 (l.length - (i + 1))
  rwa [show i + 1 + (l.length - (i + 1)) = l.length by omega] at this
theorem sReplay_spec (l : List RecD) (hl : l.length ≤ 1048576) (hr : ∀ x ∈ l, okOps x.2.2 = true) : q_sReplayRecs l = true ∧ sReplayRecs l = repOut l := by
  have key : ((k2_sReplayRecs l).1 = 0 ∧ (k2_sReplayRecs l).2.1 = false ∧ (k2_sReplayRecs l).2.2.1 = [] ∧ (k2_sReplayRecs l).2.2.2.1 = [] ∧ repL l l.length = none) ∨ ((k2_sReplayRecs l).1 = 1 ∧ repL l l.length = some ((k2_sReplayRecs l).2.2.2.2.1, (k2_sReplayRecs l).2.2.2.2.2.1)) := by
    refine itX_inv (ss := fun v : V_sReplayRecs_0 => ss_sReplayRecs_0 v.1 v.2.1 v.2.2.1 v.2.2.2.1 v.2.2.2.2) (fa := fl_sReplayRecs_0)
      (fun v => ∃ (i : Nat) (m : List PairD) (held : List RecD) (seen : List Int), v = (l, (i : Int), m, held, seen) ∧ i ≤ l.length ∧ repL l i = some (m, held) ∧ seen.length ≤ i ∧ ∀ t, t ∈ seen ↔ (l.take i).any (isTx t) = true)
      (fun a : A_sReplayRecs_0 => (a.1 = 0 ∧ a.2.1 = false ∧ a.2.2.1 = [] ∧ a.2.2.2.1 = [] ∧ repL l l.length = none) ∨ (a.1 = 1 ∧ repL l l.length = some (a.2.2.2.2.1, a.2.2.2.2.2.1))) (fun v => l.length - v.2.1.toNat) ?_ ⟨0, [], [], [], rfl, Nat.zero_le _, rfl, by simp, by simp⟩ (by simp; omega)
    rintro v ⟨i, m, held, seen, rfl, hi, hp, hs, hse⟩
    by_cases hlt : i < l.length
    · have e1 : decide ((i : Int) < ((l.length : Nat) : Int)) = true := decide_eq_true (by omega)
      have e2 : decide (0 ≤ (i : Int) ∧ (i : Int) < ((l.length : Nat) : Int)) = true := decide_eq_true (by omega)
      have I := rep_ok hr i hi m held hp
      have o := one_spec (l.getD i dRec) m held seen (hr _ (getD_mem hlt dRec)) (by have := I.hml; omega) (by have := I.hlen; omega) (fun x hx => (I.hmem x hx).1) (by omega)
      have hkn : decide ((l.getD i dRec).2.1 ∈ seen) = (l.take i).any (isTx (l.getD i dRec).2.1) := by
        cases hc : (l.take i).any (isTx (l.getD i dRec).2.1) with
        | true => exact decide_eq_true ((hse _).2 hc)
        | false => exact decide_eq_false (fun h => by rw [(hse _).1 h] at hc; cases hc)
      rw [hkn] at o
      obtain ⟨o1, o2⟩ := o
      simp only [ss_sReplayRecs_0, k1_sReplayRecs, e1, e2, cond_true, Int.toNat_natCast, getD_dR, o1, wrapU i (by omega)]
      cases hst : stepL ((l.take i).any (isTx (l.getD i dRec).2.1)) m held (l.getD i dRec) with
      | none =>
        rw [hst] at o2
        simp only [o2, Bool.not_false, cond_true]
        exact .inr ⟨_, rfl, .inl ⟨rfl, rfl, rfl, rfl, rep_stop hlt hp hst⟩⟩
      | some s =>
        obtain ⟨m', h'⟩ := s
        rw [hst] at o2
        obtain ⟨s', o3, o4⟩ := o2
        simp only [o3, Bool.not_true, cond_false]
        refine .inl ⟨_, rfl, ⟨i + 1, m', h', s', rfl, by omega, by simp only [repL, hp, Option.bind_some]; exact hst, ?_, fun t => ?_⟩, by simp only [Int.toNat_natCast]; omega⟩
        · rcases o4 with rfl | ⟨rfl, _⟩
          · rw [List.length_append]; simp; omega
          · omega
        · rw [take_succ_getD hlt dRec, List.any_append, Bool.or_eq_true]
          have hone : ([l.getD i dRec].any (isTx t) = true) ↔ (l.getD i dRec).2.1 = t := by simp [isTx]
          rw [hone]
          rcases o4 with rfl | ⟨rfl, hany⟩
          · rw [List.mem_append, hse t, List.mem_singleton]
            exact or_congr Iff.rfl eq_comm
          · rw [hse t]
            refine ⟨.inl, ?_⟩
            rintro (h | h)
            · exact h
            · subst h
              obtain ⟨x, hx1, hx2⟩ := List.any_eq_true.1 hany
              have := (I.hmem x hx1).2
              rw [show x.2.1 = (l.getD i dRec).2.1 from beq_iff_eq.1 hx2] at this
              exact this
    · obtain rfl : i = l.length := by omega
      have e1 : decide ((l.length : Int) < ((l.length : Nat) : Int)) = false := decide_eq_false (by omega)
      simp only [ss_sReplayRecs_0, e1, cond_false]
      exact .inr ⟨_, rfl, .inr ⟨rfl, hp⟩⟩
  simp only [q_sReplayRecs, sReplayRecs, repOut]
  rcases key with ⟨h1, h2, h3, h4, h5⟩ | ⟨h1, h2⟩
  · rw [h1, h2, h3, h4, h5]; exact ⟨rfl, rfl⟩
  · rw [h1, h2]; exact ⟨rfl, rfl⟩
theorem okRecS_ops {l : List RecD} (h : okRecS l) : ∀ x ∈ l, okOps x.2.2 = true := fun x hx => h.2 x hx
theorem keyAt_same (s : ByteArray) (i : Nat) : sKeyAt s i = iKeyAt s i := by
  have hb : 0 ≤ bt s (i : Int) ∧ bt s (i : Int) < 256 := by
    unfold bt
    split
    · have := UInt8.toNat_lt s[(i : Int).toNat]; omega
    · simp
  have e := wrap64 (n := bt s (i : Int)) (by omega) (by omega)
  simp only [sKeyAt, iKeyAt, sl1In, iisKeyByte, e]
  generalize bt s (i : Int) = c
  by_cases h1 : c ≥ 97 <;> by_cases h2 : c ≤ 122 <;> by_cases h3 : c ≥ 48 <;> by_cases h4 : c ≤ 57 <;> simp [h1, h2, h3, h4]
theorem keyOk_same (s : ByteArray) : sKeyOk s = iKeyOk s := by
  have e : allF (sKeyAt s) (s.size - (0 : Int).toNat) (0 : Int).toNat = allF (iKeyAt s) (s.size - (0 : Int).toNat) (0 : Int).toNat := allF_congr _ _ (fun j _ _ => keyAt_same s j)
  simp only [sKeyOk, iKeyOk, iisWord, iinRange, sl1In, e]
  cases allF (iKeyAt s) (s.size - (0 : Int).toNat) (0 : Int).toNat <;> cases decide (((s.size : Nat) : Int) ≥ 1) <;> cases decide (((s.size : Nat) : Int) ≤ 12) <;> rfl
theorem opOk_same (k : Int) (s v : ByteArray) : sl7Op k s v = iopOk k s v := by
  simp only [sl7Op, iopOk, keyOk_same, ba_beq, sl1In]
  cases iKeyOk s with
  | false =>
    by_cases h1 : k = 1 <;> by_cases h2 : k = 2 <;> by_cases h3 : k = 3 <;> by_cases h4 : v = ⟨#[]⟩ <;> by_cases h5 : k ≥ 1 <;> by_cases h6 : k ≤ 3 <;> simp [h1, h2, h3, h4, h5, h6] <;> omega
  | true =>
    by_cases h2 : k = 2
    · subst h2
      by_cases h4 : v = ⟨#[]⟩
      · subst h4; simp [ByteArray.size]
      · simp [h4]
    · by_cases h1 : k = 1
      · subst h1; simp
      · by_cases h3 : k = 3
        · subst h3; simp
        · by_cases h5 : k ≥ 1 <;> by_cases h6 : k ≤ 3 <;> simp [h1, h2, h3, h5, h6] <;> omega
theorem opAt_same (l : LIBBe) (i : Nat) : sOpAt l i = iOpAt l i := by
  simp only [sOpAt, iOpAt, opOk_same]
  rw [← bytesLess_ge, Bool.not_not]
theorem opsOk_same (l : LIBBe) : sOpsOk l = iOpsOk l := by
  have e : allF (sOpAt l) (l.length - (0 : Int).toNat) (0 : Int).toNat = allF (iOpAt l) (l.length - (0 : Int).toNat) (0 : Int).toNat := allF_congr _ _ (fun j _ _ => opAt_same l j)
  simp only [sOpsOk, iOpsOk, e]
  rfl
theorem recOk_same (k t : Int) (l : LIBBe) : sRecOk k t l = iRecOk k t l := by
  simp only [sRecOk, iRecOk, iisTx, opsOk_same]
  rw [show iinRange t 1 1000000 = sl1In t 1 1000000 from rfl]
  cases sl1In t 1 1000000 <;> simp
theorem recAt_spec (l : List RecD) (t : Int) (hl : l.length ≤ 1099511627776) : q_irecAt l t = true ∧ irecAt l t = cond (decide (l.reverse.findIdx (isTx t) < l.length)) (((l.length : Nat) : Int) - 1 - ((l.reverse.findIdx (isTx t) : Nat) : Int)) (-1) := by
  have e0 := wrap64 (n := ((l.length : Nat) : Int) - 1) (by omega) (by omega)
  have e : it_irecAt_0 l t (((l.length : Nat) : Int) - 1) = cond (decide (l.reverse.findIdx (isTx t) < l.reverse.length)) (0, ((l.length : Nat) : Int) - 1 - ((l.reverse.findIdx (isTx t) : Nat) : Int)) (1, 0) := by
    have := itX_find (ss := fun v : V_irecAt_0 => ss_irecAt_0 v.1 v.2.1 v.2.2) (fa := fl_irecAt_0) (fun i => ((l, t, ((l.length : Nat) : Int) - 1 - (i : Int)) : V_irecAt_0)) l.reverse dRec (isTx t) (fun i => ((0, ((l.length : Nat) : Int) - 1 - (i : Int)) : A_irecAt_0)) (1, 0) (by rw [List.length_reverse]; omega) (fun i hi => by
      rw [List.length_reverse] at hi
      have h1 : decide (((l.length : Nat) : Int) - 1 - (i : Int) ≥ 0) = true := decide_eq_true (by omega)
      have h2 : decide (0 ≤ ((l.length : Nat) : Int) - 1 - (i : Int) ∧ ((l.length : Nat) : Int) - 1 - (i : Int) < ((l.length : Nat) : Int)) = true := decide_eq_true (by omega)
      have h3 : (((l.length : Nat) : Int) - 1 - (i : Int)).toNat = l.length - 1 - i := by omega
      have h4 : l.reverse.getD i dRec = l.getD (l.length - 1 - i) dRec := by
        simp only [List.getD_eq_getElem?_getD]
        rw [List.getElem?_reverse hi]
      have h6 : ((l.length : Nat) : Int) - 1 - (i : Int) - 1 = ((l.length : Nat) : Int) - 1 - ((i + 1 : Nat) : Int) := by omega
      have h5 := wrap64 (n := ((l.length : Nat) : Int) - 1 - ((i + 1 : Nat) : Int)) (by omega) (by omega)
      simp only [ss_irecAt_0, h1, h2, cond_true, h3, h5, getD_dR, h4, isTx, h6]) (by
      rw [List.length_reverse]
      have h1 : decide (((l.length : Nat) : Int) - 1 - ((l.length : Nat) : Int) ≥ 0) = false := decide_eq_false (by omega)
      simp only [ss_irecAt_0, h1, cond_false])
    have e2 : it_irecAt_0 l t (((l.length : Nat) : Int) - 1) = itX (fun v : V_irecAt_0 => ss_irecAt_0 v.1 v.2.1 v.2.2) fl_irecAt_0 (l, t, ((l.length : Nat) : Int) - 1 - ((0 : Nat) : Int)) := by
      rw [show ((l.length : Nat) : Int) - 1 - ((0 : Nat) : Int) = ((l.length : Nat) : Int) - 1 by omega]; rfl
    exact e2.trans this
  rw [List.length_reverse] at e
  simp only [q_irecAt, irecAt, e0, e]
  cases decide (l.reverse.findIdx (isTx t) < l.length) <;> exact ⟨rfl, rfl⟩
theorem recAt_neg (l : List RecD) (t : Int) (hl : l.length ≤ 1099511627776) : decide (irecAt l t < 0) = !(l.any (isTx t)) ∧ decide (irecAt l t ≥ 0) = l.any (isTx t) := by
  rw [(recAt_spec l t hl).2]
  cases ha : l.any (isTx t) with
  | true =>
    have : l.reverse.findIdx (isTx t) < l.length := by
      rw [← List.length_reverse]
      refine List.findIdx_lt_length.2 ?_
      obtain ⟨x, hx, hp⟩ := List.any_eq_true.1 ha
      exact ⟨x, List.mem_reverse.2 hx, hp⟩
    rw [decide_eq_true this]
    exact ⟨decide_eq_false (by simp only [cond_true]; omega), decide_eq_true (by simp only [cond_true]; omega)⟩
  | false =>
    have : ¬ l.reverse.findIdx (isTx t) < l.length := by
      intro hc
      rw [← List.length_reverse] at hc
      obtain ⟨x, hx, hp⟩ := List.findIdx_lt_length.1 hc
      rw [List.any_eq_true.2 ⟨x, List.mem_reverse.1 hx, hp⟩] at ha
      cases ha
    rw [decide_eq_false this]
    exact ⟨rfl, rfl⟩
theorem toList_comm (a b : ByteArray) : (a.toList == b.toList) = (b.toList == a.toList) := by
  rw [ba_beq, ba_beq]; exact decide_eq_decide.2 eq_comm
theorem held_in (ops l : LIBBe) (held : List RecD) (n i k : Int) (m : Int) (o : Int × ByteArray × ByteArray) (ho : ops.length ≤ 1048576) :
    it_iisHeldKey_2 ops held n i l m k ops ((ops.length : Nat) : Int) 0 o.1 o.2.1 o.2.2 = cond (keyAny o.2.1 ops) (0, true, [], [], 0, 0, [], 0, 0) (1, false, ops, held, n, i, l, m, k) := by
  refine itX_any (ss := fun v : V_iisHeldKey_2 => ss_iisHeldKey_2 v.1 v.2.1 v.2.2.1 v.2.2.2.1 v.2.2.2.2.1 v.2.2.2.2.2.1 v.2.2.2.2.2.2.1 v.2.2.2.2.2.2.2.1 v.2.2.2.2.2.2.2.2.1 v.2.2.2.2.2.2.2.2.2 o.1 o.2.1 o.2.2) (fa := fl_iisHeldKey_2) (fun j => ((ops, held, n, i, l, m, k, ops, ((ops.length : Nat) : Int), (j : Int)) : V_iisHeldKey_2)) ops dOp (fun x => o.2.1.toList == x.2.1.toList) _ _ (by omega) (fun j hj => ?_) ?_
  · have h1 : decide ((j : Int) < ((ops.length : Nat) : Int)) = true := decide_eq_true (by omega)
    have h4 : decide (0 ≤ (j : Int) ∧ (j : Int) < ((ops.length : Nat) : Int)) = true := decide_eq_true (by omega)
    simp only [ss_iisHeldKey_2, getD_dO, Int.toNat_natCast, h1, h4, cond_true, wrapU j (by omega), toList_comm _ o.2.1]
  · have h1 : decide (((ops.length : Nat) : Int) < ((ops.length : Nat) : Int)) = false := decide_eq_false (by omega)
    simp only [ss_iisHeldKey_2, h1, cond_false]
theorem held_mid (ops l : LIBBe) (held : List RecD) (n i : Int) (hl : l.length ≤ 1048576) (ho : ops.length ≤ 1048576) :
    it_iisHeldKey_1 ops held n i l ((l.length : Nat) : Int) 0 = cond (keysAny l ops) (0, true, [], [], 0, 0) (1, false, ops, held, n, i) := by
  refine itX_any (ss := fun v : V_iisHeldKey_1 => ss_iisHeldKey_1 v.1 v.2.1 v.2.2.1 v.2.2.2.1 v.2.2.2.2.1 v.2.2.2.2.2.1 v.2.2.2.2.2.2) (fa := fl_iisHeldKey_1) (fun k => ((ops, held, n, i, l, ((l.length : Nat) : Int), (k : Int)) : V_iisHeldKey_1)) l dOp (fun o => keyAny o.2.1 ops) _ _ (by omega) (fun k hk => ?_) ?_
  · have h1 : decide ((k : Int) < ((l.length : Nat) : Int)) = true := decide_eq_true (by omega)
    have h2 : decide (0 ≤ (k : Int) ∧ (k : Int) < ((l.length : Nat) : Int)) = true := decide_eq_true (by omega)
    simp only [ss_iisHeldKey_1, k1_iisHeldKey, getD_dO, Int.toNat_natCast, h1, h2, cond_true, held_in ops l held n i (k : Int) ((l.length : Nat) : Int) (l.getD k dOp) ho]
    cases keyAny (l.getD k dOp).2.1 ops
    · simp only [cond_false, wrapU k (by omega)]; rfl
    · rfl
  · have h1 : decide (((l.length : Nat) : Int) < ((l.length : Nat) : Int)) = false := decide_eq_false (by omega)
    simp only [ss_iisHeldKey_1, h1, cond_false]
theorem heldKey_spec (held : List RecD) (ops : LIBBe) (hl : held.length ≤ 1099511627776) (hh : ∀ r ∈ held, r.2.2.length ≤ 1048576) (ho : ops.length ≤ 1048576) : q_iisHeldKey held ops = true ∧ iisHeldKey held ops = lockedL held ops := by
  have e : it_iisHeldKey_0 ops held ((held.length : Nat) : Int) 0 = cond (lockedL held ops) (0, true) (1, false) := by
    refine itX_any (ss := fun v : V_iisHeldKey_0 => ss_iisHeldKey_0 v.1 v.2.1 v.2.2.1 v.2.2.2) (fa := fl_iisHeldKey_0) (fun i => ((ops, held, ((held.length : Nat) : Int), (i : Int)) : V_iisHeldKey_0)) held dRec (fun r => keysAny r.2.2 ops) _ _ (by omega) (fun i hi => ?_) ?_
    · have h1 : decide ((i : Int) < ((held.length : Nat) : Int)) = true := decide_eq_true (by omega)
      have h2 : decide (0 ≤ (i : Int) ∧ (i : Int) < ((held.length : Nat) : Int)) = true := decide_eq_true (by omega)
      simp only [ss_iisHeldKey_0, k2_iisHeldKey, getD_dR, Int.toNat_natCast, h1, h2, cond_true, held_mid ops (held.getD i dRec).2.2 held ((held.length : Nat) : Int) (i : Int) (hh _ (getD_mem hi dRec)) ho]
      cases keysAny (held.getD i dRec).2.2 ops
      · simp only [cond_false, wrapU i (by omega)]; rfl
      · rfl
    · have h1 : decide (((held.length : Nat) : Int) < ((held.length : Nat) : Int)) = false := decide_eq_false (by omega)
      simp only [ss_iisHeldKey_0, h1, cond_false]
  simp only [q_iisHeldKey, iisHeldKey, e]
  cases lockedL held ops <;> exact ⟨rfl, rfl⟩
theorem pairAt_spec (l : LBBe) (k : ByteArray) (hl : l.length ≤ 1099511627776) : q_ipairAt l k = true ∧ ipairAt l k = cond (decide (l.findIdx (isK k) < l.length)) ((l.findIdx (isK k) : Nat) : Int) (-1) := by
  have e : it_slices_IndexFunc_iPair_ipairAt_1_0 l ((l.length : Nat) : Int) 0 k = cond (decide (l.findIdx (isK k) < l.length)) (0, ((l.findIdx (isK k) : Nat) : Int)) (1, 0) := by
    refine itX_find (ss := fun v : V_slices_IndexFunc_iPair_ipairAt_1_0 => ss_slices_IndexFunc_iPair_ipairAt_1_0 v.1 v.2.1 v.2.2 k) (fa := fl_slices_IndexFunc_iPair_ipairAt_1_0) (fun i => ((l, ((l.length : Nat) : Int), (i : Int)) : V_slices_IndexFunc_iPair_ipairAt_1_0)) l dP (isK k) (fun i => ((0, (i : Int)) : A_slices_IndexFunc_iPair_ipairAt_1_0)) _ (by omega) (fun i hi => ?_) ?_
    · have h1 : decide ((i : Int) < ((l.length : Nat) : Int)) = true := decide_eq_true (by omega)
      have h2 : decide (0 ≤ (i : Int) ∧ (i : Int) < ((l.length : Nat) : Int)) = true := decide_eq_true (by omega)
      simp only [ss_slices_IndexFunc_iPair_ipairAt_1_0, h1, h2, cond_true, Int.toNat_natCast, wrapU i (by omega), getD_dP, k1_slices_IndexFunc_iPair_ipairAt_1, ipairAt_1]
      rfl
    · have h1 : decide (((l.length : Nat) : Int) < ((l.length : Nat) : Int)) = false := decide_eq_false (by omega)
      simp only [ss_slices_IndexFunc_iPair_ipairAt_1_0, h1, cond_false]
  simp only [q_ipairAt, ipairAt, q_slices_IndexFunc_iPair_ipairAt_1, slices_IndexFunc_iPair_ipairAt_1, e]
  cases decide (l.findIdx (isK k) < l.length) <;> exact ⟨rfl, rfl⟩
theorem iGetKey_spec (l : LBBe) (k : ByteArray) (hl : l.length ≤ 1099511627776) : q_iGetKey l k = true ∧ iGetKey l k = (match getL l k with | some v => (v, true) | none => ((⟨#[]⟩ : ByteArray), false)) := by
  obtain ⟨p1, p2⟩ := pairAt_spec l k hl
  simp only [q_iGetKey, iGetKey, p1, p2, getL, find_idx (isK k) dP l, Bool.true_and]
  cases hc : decide (l.findIdx (isK k) < l.length) with
  | true =>
    have hlt := of_decide_eq_true hc
    have g1 : decide (((l.findIdx (isK k) : Nat) : Int) < 0) = false := decide_eq_false (by omega)
    have g2 : decide (0 ≤ ((l.findIdx (isK k) : Nat) : Int) ∧ ((l.findIdx (isK k) : Nat) : Int) < ((l.length : Nat) : Int)) = true := decide_eq_true (by omega)
    simp only [cond_true, g1, g2, cond_false, Int.toNat_natCast]
    exact ⟨trivial, rfl⟩
  | false => exact ⟨rfl, rfl⟩
theorem getKey_same (m : LBBe) (k : ByteArray) (hm : m.length ≤ 1099511627776) : iGetKey m k = sGetKey m k := by
  rw [(sGetKey_spec m k hm).2, (iGetKey_spec m k hm).2]
  all_goals (cases getL m k <;> rfl)
theorem iMeets_spec (m : LBBe) (ops : LIBBe) (hm : m.length ≤ 1099511627776) (ho : ops.length ≤ 1048576) : q_iMeets m ops = true ∧ iMeets m ops = meetsL m ops := by
  have e : it_iMeets_0 m ops ((ops.length : Nat) : Int) 0 = cond (ops.any (misses m)) (0, false) (1, false) := by
    refine itX_any (ss := fun v : V_iMeets_0 => ss_iMeets_0 v.1 v.2.1 v.2.2.1 v.2.2.2) (fa := fl_iMeets_0) (fun i => ((m, ops, ((ops.length : Nat) : Int), (i : Int)) : V_iMeets_0)) ops dOp (misses m) _ _ (by omega) (fun i hi => ?_) ?_
    · have h1 : decide ((i : Int) < ((ops.length : Nat) : Int)) = true := decide_eq_true (by omega)
      have h2 : decide (0 ≤ (i : Int) ∧ (i : Int) < ((ops.length : Nat) : Int)) = true := decide_eq_true (by omega)
      simp only [ss_iMeets_0, k1_iMeets, getD_dO, Int.toNat_natCast, h1, h2, cond_true, wrapU i (by omega), (iGetKey_spec m _ hm).1, getKey_same m _ hm, misses]
      generalize ((ops.getD i dOp).1 != 3) = a
      generalize (!((sGetKey m (ops.getD i dOp).2.1).2 == (!((ops.getD i dOp).2.2.toList == (⟨#[]⟩ : ByteArray).toList)))) = b
      generalize (!((sGetKey m (ops.getD i dOp).2.1).1.toList == (ops.getD i dOp).2.2.toList)) = c
      cases a <;> cases b <;> cases c <;> rfl
    · have h1 : decide (((ops.length : Nat) : Int) < ((ops.length : Nat) : Int)) = false := decide_eq_false (by omega)
      simp only [ss_iMeets_0, h1, cond_false]
  simp only [q_iMeets, iMeets, e, meetsL]
  cases ops.any (misses m) <;> exact ⟨rfl, rfl⟩
theorem oneTx_eq {l : List RecD} (h : oneTx l) {i j : Nat} (hi : i < l.length) (hj : j < l.length) (e : (l.getD i dRec).2.1 = (l.getD j dRec).2.1) : i = j := by
  have hg : ∀ k (hk : k < l.length), (l.getD k dRec).2.1 = (l.map (·.2.1))[k]'(by simpa using hk) := fun k hk => by simp [List.getD_eq_getElem?_getD, hk]
  rw [hg i hi, hg j hj] at e
  exact (List.getElem_inj h).1 e
/-- Where there is one alone, its place is found from both sides. -/
theorem at_same {l : List RecD} (h : oneTx l) (t : Int) (hl : l.length ≤ 1099511627776) (ha : l.any (isTx t) = true) : sl8At l t = ((l.findIdx (isTx t) : Nat) : Int) ∧ irecAt l t = ((l.findIdx (isTx t) : Nat) : Int) ∧ l.findIdx (isTx t) < l.length ∧ (l.getD (l.findIdx (isTx t)) dRec).2.1 = t := by
  have h1 := List.findIdx_lt_length.2 (List.any_eq_true.1 ha)
  have h2 : l.reverse.findIdx (isTx t) < l.length := by
    rw [← List.length_reverse]
    refine List.findIdx_lt_length.2 ?_
    obtain ⟨x, hx, hp⟩ := List.any_eq_true.1 ha
    exact ⟨x, List.mem_reverse.2 hx, hp⟩
  have p1 : isTx t (l.getD (l.findIdx (isTx t)) dRec) = true := by
    have := List.findIdx_getElem (w := h1)
    rw [List.getD_eq_getElem?_getD, List.getElem?_eq_getElem h1]; exact this
  have p2 : isTx t (l.getD (l.length - 1 - l.reverse.findIdx (isTx t)) dRec) = true := by
    have h3 : l.reverse.findIdx (isTx t) < l.reverse.length := by rw [List.length_reverse]; exact h2
    have := List.findIdx_getElem (w := h3)
    have e : l.reverse.getD (l.reverse.findIdx (isTx t)) dRec = l.getD (l.length - 1 - l.reverse.findIdx (isTx t)) dRec := by
      simp only [List.getD_eq_getElem?_getD]
      rw [List.getElem?_reverse h2]
    rw [← e, List.getD_eq_getElem?_getD, List.getElem?_eq_getElem h3]; exact this
  have p1' : (l.getD (l.findIdx (isTx t)) dRec).2.1 = t := beq_iff_eq.1 (show ((l.getD (l.findIdx (isTx t)) dRec).2.1 == t) = true from p1)
  have p2' : (l.getD (l.length - 1 - l.reverse.findIdx (isTx t)) dRec).2.1 = t := beq_iff_eq.1 (show ((l.getD (l.length - 1 - l.reverse.findIdx (isTx t)) dRec).2.1 == t) = true from p2)
  have hij := oneTx_eq h (i := l.findIdx (isTx t)) (j := l.length - 1 - l.reverse.findIdx (isTx t)) h1 (by omega) (by rw [p1', p2'])
  refine ⟨by rw [(l8At_spec l t hl).2, decide_eq_true h1]; rfl, ?_, h1, p1'⟩
  rw [(recAt_spec l t hl).2, decide_eq_true h2]
  simp only [cond_true]
  omega
theorem iputKey_spec (l : LBBe) (k v : ByteArray) (hl : l.length ≤ 1099511627776) : q_iputKey k v l = true ∧ iputKey k v l = putL l k v := by
  obtain ⟨p1, p2⟩ := pairAt_spec l k hl
  have e1 : it_iputKey_0 k v 0 l = (0, k, v, ((l.findIdx (overK k) : Nat) : Int), l) := by
    have h := itX_find (ss := fun u : V_iputKey_0 => ss_iputKey_0 u.1 u.2.1 u.2.2.1 u.2.2.2) (fa := fl_iputKey_0) (fun i => ((k, v, (i : Int), l) : V_iputKey_0)) l dP (overK k) (fun i => ((0, k, v, (i : Int), l) : A_iputKey_0)) (0, k, v, ((l.length : Nat) : Int), l) (by omega) (fun i hi => ?_) ?_
    · refine h.trans ?_
      by_cases hc : l.findIdx (overK k) < l.length
      · rw [decide_eq_true hc]; rfl
      · have := findIdx_le' (overK k) l
        have he : l.findIdx (overK k) = l.length := by omega
        rw [decide_eq_false hc, he]; rfl
    · have h1 : decide ((i : Int) < ((l.length : Nat) : Int)) = true := decide_eq_true (by omega)
      have h2 : decide (0 ≤ (i : Int) ∧ (i : Int) < ((l.length : Nat) : Int)) = true := decide_eq_true (by omega)
      simp only [ss_iputKey_0, h1, h2, cond_true, Int.toNat_natCast, wrapU i (by omega), getD_dP, overK]
      cases (Op.bytesLess (l.getD i dP).1.toList k.toList || (l.getD i dP).1.toList == k.toList) <;> rfl
    · have h1 : decide (((l.length : Nat) : Int) < ((l.length : Nat) : Int)) = false := decide_eq_false (by omega)
      simp only [ss_iputKey_0, h1, cond_false]
  have hle := findIdx_le' (overK k) l
  simp only [q_iputKey, iputKey, p1, p2, k1_iputKey, e1, q_insP, insP, putL, Int.toNat_natCast]
  cases hc : decide (l.findIdx (isK k) < l.length) with
  | true =>
    have hlt := of_decide_eq_true hc
    have g1 : decide (((l.findIdx (isK k) : Nat) : Int) ≥ 0) = true := decide_eq_true (by omega)
    have g2 : decide (0 ≤ ((l.findIdx (isK k) : Nat) : Int) ∧ ((l.findIdx (isK k) : Nat) : Int) < ((l.length : Nat) : Int)) = true := decide_eq_true (by omega)
    simp only [cond_true, g1, g2, Int.toNat_natCast, Bool.true_and]
    exact ⟨trivial, rfl⟩
  | false =>
    have g1 : decide ((-1 : Int) ≥ 0) = false := by decide
    have g2 : decide (0 ≤ ((l.findIdx (overK k) : Nat) : Int) ∧ ((l.findIdx (overK k) : Nat) : Int) ≤ ((l.length : Nat) : Int)) = true := decide_eq_true (by omega)
    have g3 : decide ((l.length + 1) * 32 ≤ 140737488355328) = true := decide_eq_true (by omega)
    simp only [cond_false, g1, g2, g3, Bool.true_and]
    exact ⟨rfl, rfl⟩
theorem filt1 {α : Type} {p : α → Bool} {x : α} (h : p x = false) : [x].filter p = [] := by simp [List.filter_cons, h]
theorem filt2 {α : Type} {p : α → Bool} {x : α} (h : p x = true) : [x].filter p = [x] := by simp [List.filter_cons, h]
theorem delFunc_loop (l : LBBe) (k : ByteArray) (hl : l.length ≤ 1099511627776) (j : Nat) (hj : j < l.length) (hpre : (l.take j).filter (fun p => !isK k p) = l.take j) (hat : isK k (l.getD j dP) = true) :
    ∃ r : LBBe, it_slices_DeleteFunc_iPair_0 ((j : Nat) : Int) (((j + 1 : Nat) : Int)) l k = (0, (((delL l k).length : Nat) : Int), r) ∧ r.length = l.length ∧ r.take (delL l k).length = delL l k := by
  refine itX_inv (fun v : V_slices_DeleteFunc_iPair_0 => ∃ (m : Nat) (r : LBBe), v = (((((l.take m).filter (fun p => !isK k p)).length : Nat) : Int), (m : Int), r) ∧ m ≤ l.length ∧ ((l.take m).filter (fun p => !isK k p)).length < m ∧ r.length = l.length ∧ r.take ((l.take m).filter (fun p => !isK k p)).length = (l.take m).filter (fun p => !isK k p) ∧ r.drop m = l.drop m)
    (fun a : A_slices_DeleteFunc_iPair_0 => ∃ r : LBBe, a = (0, (((delL l k).length : Nat) : Int), r) ∧ r.length = l.length ∧ r.take (delL l k).length = delL l k) (fun v => l.length - v.2.1.toNat) ?_ ⟨j + 1, l, ?_, by omega, ?_, rfl, ?_, rfl⟩ (by simp; omega)
  · rintro v ⟨m, r, rfl, hm, hlt2, hr, ht, hd⟩
    by_cases hlt : m < l.length
    · left
      have h1 : decide ((m : Int) < ((r.length : Nat) : Int)) = true := decide_eq_true (by omega)
      have h2 : decide (0 ≤ (m : Int) ∧ (m : Int) < ((r.length : Nat) : Int)) = true := decide_eq_true (by omega)
      have h3 : decide (0 ≤ ((((l.take m).filter (fun p => !isK k p)).length : Nat) : Int) ∧ ((((l.take m).filter (fun p => !isK k p)).length : Nat) : Int) < ((r.length : Nat) : Int)) = true := decide_eq_true (by omega)
      have hg : r.getD m dP = l.getD m dP := by
        have := congrArg (fun x : LBBe => x[0]?) hd
        simp only [List.getElem?_drop, Nat.add_zero] at this
        simp only [List.getD_eq_getElem?_getD, this]
      have htk : l.take (m + 1) = l.take m ++ [l.getD m dP] := take_succ_getD hlt dP
      have hdd : ∀ x : LBBe, x.drop m = l.drop m → x.drop (m + 1) = l.drop (m + 1) := fun x hx => by
        rw [← List.drop_drop, ← List.drop_drop, hx]
      cases hc : isK k (l.getD m dP) with
      | true =>
        have hf : (l.take (m + 1)).filter (fun p => !isK k p) = (l.take m).filter (fun p => !isK k p) := by rw [htk, List.filter_append, filt1 (by rw [hc]; rfl), List.append_nil]
        refine ⟨(((((l.take (m + 1)).filter (fun p => !isK k p)).length : Nat) : Int), ((m + 1 : Nat) : Int), r), ?_, ⟨m + 1, r, rfl, by omega, by rw [hf]; omega, hr, by rw [hf]; exact ht, hdd r hd⟩, by simp only [Int.toNat_natCast]; omega⟩
        have hk : k1_slices_DeleteFunc_iPair (m : Int) r k = true := by simp only [k1_slices_DeleteFunc_iPair, iDelKey_1, getD_dP, Int.toNat_natCast, hg]; exact hc
        simp only [ss_slices_DeleteFunc_iPair_0, h1, h2, hk, cond_true, Bool.not_true, cond_false, wrapU m (by omega), hf]
      | false =>
        have hf : (l.take (m + 1)).filter (fun p => !isK k p) = (l.take m).filter (fun p => !isK k p) ++ [l.getD m dP] := by rw [htk, List.filter_append, filt2 (by rw [hc]; rfl)]
        refine ⟨(((((l.take (m + 1)).filter (fun p => !isK k p)).length : Nat) : Int), ((m + 1 : Nat) : Int), r.set ((l.take m).filter (fun p => !isK k p)).length (l.getD m dP)), ?_, ⟨m + 1, _, rfl, by omega, by rw [hf]; simp; omega, by simp [hr], ?_, hdd _ ?_⟩, by simp only [Int.toNat_natCast]; omega⟩
        · have hk : k1_slices_DeleteFunc_iPair (m : Int) r k = false := by simp only [k1_slices_DeleteFunc_iPair, iDelKey_1, getD_dP, Int.toNat_natCast, hg]; exact hc
          have hfl : (((l.take m).filter (fun p => !isK k p)) ++ [l.getD m dP]).length = ((l.take m).filter (fun p => !isK k p)).length + 1 := by simp
          simp only [ss_slices_DeleteFunc_iPair_0, h1, h2, h3, hk, cond_true, Bool.not_false, wrapU m (by omega), wrapU ((l.take m).filter (fun p => !isK k p)).length (by omega), hf, hfl, Int.toNat_natCast, getD_dP, hg]
        · rw [hf, List.length_append, List.length_singleton, List.take_add_one, List.take_set_of_le (Nat.le_refl _), ht]
          congr 1
          simp [List.getElem?_set, show ((l.take m).filter (fun p => !isK k p)).length < r.length by omega]
        · rw [List.drop_set_of_lt hlt2]; exact hd
    · right
      obtain rfl : m = l.length := by omega
      have h1 : decide (((l.length : Nat) : Int) < ((r.length : Nat) : Int)) = false := decide_eq_false (by omega)
      rw [List.take_length] at ht
      refine ⟨(0, (((delL l k).length : Nat) : Int), r), ?_, r, rfl, hr, ht⟩
      simp only [ss_slices_DeleteFunc_iPair_0, h1, cond_false, List.take_length]
      rfl
  · rw [take_succ_getD hj dP, List.filter_append, hpre, filt1 (by rw [hat]; rfl), List.append_nil, List.length_take]; congr 2; omega
  · rw [take_succ_getD hj dP, List.filter_append, hpre, filt1 (by rw [hat]; rfl), List.append_nil, List.length_take]; omega
  · rw [take_succ_getD hj dP, List.filter_append, hpre, filt1 (by rw [hat]; rfl), List.append_nil, List.length_take, Nat.min_eq_left (by omega)]
theorem iDelKey_spec (l : LBBe) (k : ByteArray) (hl : l.length ≤ 1099511627776) : q_iDelKey l k = true ∧ iDelKey l k = delL l k := by
  have e : it_slices_IndexFunc_iPair_iDelKey_1_0 ((l.length : Nat) : Int) 0 l k = cond (decide (l.findIdx (isK k) < l.length)) (0, ((l.findIdx (isK k) : Nat) : Int)) (1, 0) := by
    refine itX_find (ss := fun v : V_slices_IndexFunc_iPair_iDelKey_1_0 => ss_slices_IndexFunc_iPair_iDelKey_1_0 v.1 v.2 l k) (fa := fl_slices_IndexFunc_iPair_iDelKey_1_0) (fun i => ((((l.length : Nat) : Int), (i : Int)) : V_slices_IndexFunc_iPair_iDelKey_1_0)) l dP (isK k) (fun i => ((0, (i : Int)) : A_slices_IndexFunc_iPair_iDelKey_1_0)) _ (by omega) (fun i hi => ?_) ?_
    · have h1 : decide ((i : Int) < ((l.length : Nat) : Int)) = true := decide_eq_true (by omega)
      have h2 : decide (0 ≤ (i : Int) ∧ (i : Int) < ((l.length : Nat) : Int)) = true := decide_eq_true (by omega)
      simp only [ss_slices_IndexFunc_iPair_iDelKey_1_0, h1, h2, cond_true, Int.toNat_natCast, wrapU i (by omega), getD_dP, k1_slices_IndexFunc_iPair_iDelKey_1, iDelKey_1]
      rfl
    · have h1 : decide (((l.length : Nat) : Int) < ((l.length : Nat) : Int)) = false := decide_eq_false (by omega)
      simp only [ss_slices_IndexFunc_iPair_iDelKey_1_0, h1, cond_false]
  have hq : q_slices_Clone_iPair l = true := decide_eq_true (by simp [MAXB]; omega)
  have hdf : q_slices_DeleteFunc_iPair l k = true ∧ (slices_DeleteFunc_iPair l k).1 = delL l k := by
    have hidx : q_slices_IndexFunc_iPair_iDelKey_1 l k = true ∧ slices_IndexFunc_iPair_iDelKey_1 l k = cond (decide (l.findIdx (isK k) < l.length)) ((l.findIdx (isK k) : Nat) : Int) (-1) := by
      simp only [q_slices_IndexFunc_iPair_iDelKey_1, slices_IndexFunc_iPair_iDelKey_1, e]
      cases decide (l.findIdx (isK k) < l.length) <;> exact ⟨rfl, rfl⟩
    simp only [q_slices_DeleteFunc_iPair, slices_DeleteFunc_iPair, k2_slices_DeleteFunc_iPair, hidx.1, hidx.2, Bool.true_and]
    cases hc : decide (l.findIdx (isK k) < l.length) with
    | false =>
      have hge := of_decide_eq_false hc
      simp only [cond_false, show ((-1 : Int) == -1) = true from rfl, cond_true]
      refine ⟨trivial, ?_⟩
      symm
      apply List.filter_eq_self.2
      intro p hp
      have := List.findIdx_eq_length.1 (show l.findIdx (isK k) = l.length by have := findIdx_le' (isK k) l; omega) p hp
      rw [this]; rfl
    | true =>
      have hlt := of_decide_eq_true hc
      have hat : isK k (l.getD (l.findIdx (isK k)) dP) = true := by
        have := List.findIdx_getElem (w := hlt)
        simpa [List.getD_eq_getElem?_getD, hlt] using this
      have hpre : (l.take (l.findIdx (isK k))).filter (fun p => !isK k p) = l.take (l.findIdx (isK k)) := by
        apply List.filter_eq_self.2
        intro p hp
        obtain ⟨i, hi, rfl⟩ := List.mem_iff_getElem.1 hp
        rw [List.length_take] at hi
        have := List.not_of_lt_findIdx (p := isK k) (xs := l) (i := i) (by omega)
        simpa using this
      obtain ⟨r, r1, r2, r3⟩ := delFunc_loop l k hl _ hlt hpre hat
      have hne : (((l.findIdx (isK k) : Nat) : Int) == -1) = false := by simp only [beq_eq_false_iff_ne]; omega
      have hdl := delL_len l k
      simp only [cond_true, hne, cond_false, wrapU _ (show l.findIdx (isK k) < 9223372036854775807 by omega), r1, Int.toNat_natCast]
      constructor
      · simp only [Bool.and_eq_true, decide_eq_true_eq, List.length_append, List.length_take, List.length_replicate, List.length_drop]
        refine ⟨rfl, ?_, ?_⟩ <;> omega
      · rw [r3, List.append_assoc, List.take_left']
        rfl
  simp only [q_iDelKey, iDelKey, slices_Clone_iPair, hq, hdf.1, hdf.2, Bool.and_self]
  exact ⟨trivial, trivial⟩
theorem iApply_spec (m : LBBe) (l : LIBBe) (hm : m.length ≤ 1000000000) (hl : l.length ≤ 1000000000) : q_iApply m l = true ∧ iApply m l = l.foldl appL m := by
  have h : it_iApply_0 l ((l.length : Nat) : Int) 0 m = (0, l.foldl appL m) := by
    refine itX_fold (ss := fun v : V_iApply_0 => ss_iApply_0 v.1 v.2.1 v.2.2.1 v.2.2.2) (fa := fl_iApply_0) (fun i b => ((l, ((l.length : Nat) : Int), (i : Int), b) : V_iApply_0)) l dOp appL (fun b => ((0, b) : A_iApply_0)) (fun i b => b.length ≤ m.length + i) (by omega) (fun i b hi hb => ⟨?_, by have := appL_len b (l.getD i dOp); omega⟩) (fun b hb => ?_) (by simp)
    · have h1 : decide ((i : Int) < ((l.length : Nat) : Int)) = true := decide_eq_true (by omega)
      have h2 : decide (0 ≤ (i : Int) ∧ (i : Int) < ((l.length : Nat) : Int)) = true := decide_eq_true (by omega)
      have e : l.getD i ((0 : Int), ((⟨#[]⟩ : ByteArray), (⟨#[]⟩ : ByteArray))) = l.getD i dOp := rfl
      obtain ⟨p1, p2⟩ := iputKey_spec b (l.getD i dOp).2.1 (l.getD i dOp).2.2 (by omega)
      obtain ⟨d1, d2⟩ := iDelKey_spec b (l.getD i dOp).2.1 (by omega)
      simp only [ss_iApply_0, h1, h2, cond_true, Int.toNat_natCast, wrapU i (by omega), e, k1_iApply, k2_iApply, p1, p2, d1, d2, appL]
      cases (l.getD i dOp).1 == 1 <;> cases (l.getD i dOp).1 == 2 <;> rfl
    · have h1 : decide (((l.length : Nat) : Int) < ((l.length : Nat) : Int)) = false := decide_eq_false (by omega)
      simp only [ss_iApply_0, h1, cond_false]
  have hq : q_slices_Clone_iPair m = true := decide_eq_true (by simp [MAXB]; omega)
  simp only [q_iApply, iApply, slices_Clone_iPair, h, hq]
  exact ⟨rfl, trivial⟩
theorem del_spec (h : List RecD) (k : Nat) (hk : k < h.length) (hl : h.length ≤ 1099511627776) : q_slices_Delete_iRec (k : Int) ((k + 1 : Nat) : Int) h = true ∧ slices_Delete_iRec (k : Int) ((k + 1 : Nat) : Int) h = h.eraseIdx k := by
  have e0 : ((k : Int) == ((k + 1 : Nat) : Int)) = false := beq_eq_false_iff_ne.2 (by omega)
  have e1 := drop_take_all h (k + 1)
  have e2 : (h.drop (k + 1)).length = h.length - (k + 1) := List.length_drop
  have e3 : (h.take k ++ h.drop (k + 1)).length = k + (h.drop (k + 1)).length := by rw [List.length_append, List.length_take]; omega
  simp only [q_slices_Delete_iRec, slices_Delete_iRec, Int.toNat_natCast, e0, cond_false, e1]
  have e4 : (h.take k ++ h.drop (k + 1) ++ h.drop (k + (h.drop (k + 1)).length)).take (k + (h.drop (k + 1)).length) = h.take k ++ h.drop (k + 1) := List.take_left' e3
  have e5 : (h.take k ++ h.drop (k + 1) ++ h.drop (k + (h.drop (k + 1)).length)).length = h.length := by
    simp only [List.length_append, List.length_take, List.length_drop]; omega
  refine ⟨?_, ?_⟩
  · rw [e5]
    simp only [Bool.and_eq_true, decide_eq_true_eq]
    refine ⟨by omega, by omega, by omega, by omega, by omega⟩
  · rw [e4, List.append_assoc, List.take_left' e3, List.eraseIdx_eq_take_drop_succ]
theorem add_spec (r : RecD) (ahead : List RecD) (m : List PairD) (held : List RecD) (hr : okOps r.2.2 = true) (hok : sRecOk r.1 r.2.1 r.2.2 = true) (hm : m.length ≤ 1000) (hh : held.length ≤ 1048576) (ha : ahead.length ≤ 1048576) (ho : ∀ x ∈ held, okOps x.2.2 = true) (h1 : oneTx held) :
    q_ireplay_add_w2 r.1 r.2.1 r.2.2 ahead m held = true ∧ (match stepL (ahead.any (isTx r.2.1)) m held r with
      | none => (ireplay_add_w2 r.1 r.2.1 r.2.2 ahead m held).1 = false
      | some (m', h') => ireplay_add_w2 r.1 r.2.1 r.2.2 ahead m held = (true, m', h')) := by
  have a1 := (recAt_spec held r.2.1 (by omega)).1
  have a2 := (recAt_neg held r.2.1 (by omega)).1
  have a3 := (recAt_spec ahead r.2.1 (by omega)).1
  have a4 := (recAt_neg ahead r.2.1 (by omega)).2
  have hl := okOps_len hr
  obtain ⟨c1, c2⟩ := heldKey_spec held r.2.2 (by omega) (fun x hx => okOps_len (ho x hx)) hl
  obtain ⟨d1, d2⟩ := iMeets_spec m r.2.2 (by omega) hl
  have f1 : decide ((held.length + [((1 : Int), (r.2.1, r.2.2))].length) * 40 ≤ MAXB) = true := decide_eq_true (by simp only [List.length_singleton, MAXB]; omega)
  have f3 : q_slices_Clone_iOp r.2.2 = true := decide_eq_true (by simp only [List.length_nil, MAXB]; omega)
  have f4 : slices_Clone_iOp r.2.2 = r.2.2 := rfl
  simp only [q_ireplay_add_w2, ireplay_add_w2, stepL, a1, a2, a3, a4, c1, c2, d1, d2, f1, f3, f4, hok, Bool.true_and, Bool.and_true, Bool.not_true, cond_false]
  cases hk : (r.1 == 1) with
  | true =>
    simp only [cond_true]
    cases ahead.any (isTx r.2.1) with
    | true => first | exact ⟨rfl, rfl⟩ | exact ⟨trivial, rfl⟩
    | false =>
      cases lockedL held r.2.2 with
      | true => first | exact ⟨rfl, rfl⟩ | exact ⟨trivial, rfl⟩
      | false =>
        cases meetsL m r.2.2 with
        | false => first | exact ⟨rfl, rfl⟩ | exact ⟨trivial, rfl⟩
        | true => first | exact ⟨rfl, rfl⟩ | exact ⟨trivial, rfl⟩
  | false =>
    simp only [cond_false]
    cases ha2 : held.any (isTx r.2.1) with
    | false =>
      simp only [Bool.not_false, cond_true]
      cases (r.1 == 3) with
      | false => first | exact ⟨rfl, rfl⟩ | exact ⟨trivial, rfl⟩
      | true => cases ahead.any (isTx r.2.1) with
        | true => first | exact ⟨rfl, rfl⟩ | exact ⟨trivial, rfl⟩
        | false => first | exact ⟨rfl, rfl⟩ | exact ⟨trivial, rfl⟩
    | true =>
      obtain ⟨_, e1, hlt, _⟩ := at_same h1 r.2.1 (by omega) ha2
      generalize hi : held.findIdx (isTx r.2.1) = i at hlt e1 ⊢
      have e2 := wrapU i (by omega)
      have q0 : decide (0 ≤ (i : Int) ∧ (i : Int) < ((held.length : Nat) : Int)) = true := decide_eq_true (by omega)
      obtain ⟨s1, s2⟩ := iApply_spec m (held.getD i dRec).2.2 (by omega) (by have := okOps_len (ho _ (getD_mem hlt dRec)); omega)
      obtain ⟨t1, t2⟩ := del_spec held i hlt (by omega)
      simp only [Bool.not_true, cond_false, e1, e2, Int.toNat_natCast, q0, getD_dR, s1, s2, t1, t2, Bool.true_and, Bool.and_true]
      cases (r.1 == 2) with
      | true =>
        simp only [cond_true]
        refine ⟨trivial, ?_⟩
        cases decide (((((held.getD i dRec).2.2.foldl appL m).length : Nat) : Int) ≤ 60) with
        | true => rfl
        | false => rfl
      | false =>
        simp only [cond_false]
        refine ⟨trivial, ?_⟩
        cases decide (((m.length : Nat) : Int) ≤ 60) with
        | true => rfl
        | false => rfl
theorem iReplay_spec (l : List RecD) (hl : l.length ≤ 1048576) (hr : ∀ x ∈ l, okOps x.2.2 = true) : q_iReplayRecs l = true ∧ iReplayRecs l = repOut l := by
  have key : ((k3_iReplayRecs l).1 = 0 ∧ (k3_iReplayRecs l).2.1 = false ∧ repL l l.length = none) ∨ ((k3_iReplayRecs l).1 = 1 ∧ repL l l.length = some ((k3_iReplayRecs l).2.2.1, (k3_iReplayRecs l).2.2.2)) := by
    refine itX_inv (ss := fun v : V_iReplayRecs_0 => ss_iReplayRecs_0 v.1 v.2.1 v.2.2.1 v.2.2.2.1 v.2.2.2.2.1 v.2.2.2.2.2) (fa := fl_iReplayRecs_0)
      (fun v => ∃ (i : Nat) (m : List PairD) (held : List RecD), v = (l, l, ((l.length : Nat) : Int), (i : Int), m, held) ∧ i ≤ l.length ∧ repL l i = some (m, held))
      (fun a : A_iReplayRecs_0 => (a.1 = 0 ∧ a.2.1 = false ∧ repL l l.length = none) ∨ (a.1 = 1 ∧ repL l l.length = some (a.2.2.1, a.2.2.2))) (fun v => l.length - v.2.2.2.1.toNat) ?_ ⟨0, [], [], rfl, Nat.zero_le _, rfl⟩ (by simp; omega)
    rintro v ⟨i, m, held, rfl, hi, hp⟩
    by_cases hlt : i < l.length
    · have e1 : decide ((i : Int) < ((l.length : Nat) : Int)) = true := decide_eq_true (by omega)
      have e2 : decide (0 ≤ (i : Int) ∧ (i : Int) < ((l.length : Nat) : Int)) = true := decide_eq_true (by omega)
      have e3 : decide (0 ≤ (0 : Int) ∧ (0 : Int) ≤ (i : Int) ∧ (i : Int) ≤ ((l.length : Nat) : Int)) = true := decide_eq_true (by omega)
      have I := rep_ok hr i hi m held hp
      have g0 : q_iRecOk (l.getD i dRec).1 (l.getD i dRec).2.1 (l.getD i dRec).2.2 = true := hr _ (getD_mem hlt dRec)
      simp only [ss_iReplayRecs_0, k1_iReplayRecs, k2_iReplayRecs, e1, e2, e3, cond_true, Int.toNat_natCast, Int.toNat_zero, List.drop_zero, getD_dR, g0, ← recOk_same, wrapU i (by omega)]
      cases hok : sRecOk (l.getD i dRec).1 (l.getD i dRec).2.1 (l.getD i dRec).2.2 with
      | false =>
        simp only [Bool.not_false, cond_true]
        exact .inr ⟨_, rfl, .inl ⟨rfl, rfl, rep_stop hlt hp (by simp only [stepL, hok, Bool.not_false, cond_true])⟩⟩
      | true =>
        obtain ⟨o1, o2⟩ := add_spec (l.getD i dRec) (l.take i) m held (hr _ (getD_mem hlt dRec)) hok (by have := I.hml; omega) (by have := I.hlen; omega) (by rw [List.length_take]; omega) (fun x hx => (I.hmem x hx).1) I.hone
        simp only [Bool.not_true, cond_false, o1, cond_true]
        cases hst : stepL ((l.take i).any (isTx (l.getD i dRec).2.1)) m held (l.getD i dRec) with
        | none =>
          rw [hst] at o2
          simp only [o2, Bool.not_false, cond_true]
          exact .inr ⟨_, rfl, .inl ⟨rfl, rfl, rep_stop hlt hp hst⟩⟩
        | some s =>
          obtain ⟨m', h'⟩ := s
          rw [hst] at o2
          simp only [o2, Bool.not_true, cond_false]
          exact .inl ⟨_, rfl, ⟨i + 1, m', h', rfl, by omega, by simp only [repL, hp, Option.bind_some]; exact hst⟩, by simp only [Int.toNat_natCast]; omega⟩
    · obtain rfl : i = l.length := by omega
      have e1 : decide ((l.length : Int) < ((l.length : Nat) : Int)) = false := decide_eq_false (by omega)
      simp only [ss_iReplayRecs_0, e1, cond_false]
      exact .inr ⟨_, rfl, .inr ⟨rfl, hp⟩⟩
  simp only [q_iReplayRecs, iReplayRecs, repOut]
  rcases key with ⟨h1, h2, h5⟩ | ⟨h1, h2⟩
  · rw [h1, h2, h5]; exact ⟨rfl, rfl⟩
  · rw [h1, h2]; exact ⟨rfl, rfl⟩
theorem repOut_ok {l : List RecD} (h : okRecS l) : (repOut l).1.length ≤ 60 ∧ (repOut l).2.1.length ≤ l.length ∧ ∀ x ∈ (repOut l).2.1, x.2.2.length ≤ 1048576 := by
  simp only [repOut]
  cases hp : repL l l.length with
  | none => exact ⟨by simp, by simp, fun x hx => by simp at hx⟩
  | some s =>
    have I := rep_ok (okRecS_ops h) l.length (Nat.le_refl _) s.1 s.2 (by rw [hp])
    exact ⟨I.hml, I.hlen, fun x hx => okOps_len (I.hmem x hx).1⟩
noncomputable def zipQ {α : Type} (q : α → α → Bool) (a b : List α) : Bool := (a.zip b).all fun p => q p.1 p.2
noncomputable def sameL {α : Type} (q : α → α → Bool) (a b : List α) : Bool := cond (((a.length : Nat) : Int) != ((b.length : Nat) : Int)) false (zipQ q a b)
noncomputable def qP (x y : ByteArray × ByteArray) : Bool := (x.1.toList == y.1.toList) && ((x.2.toList == y.2.toList) && true)
theorem zip_getD {α : Type} (a b : List α) (d : α) {i : Nat} (ha : i < a.length) (hb : i < b.length) : (a.zip b).getD i (d, d) = (a.getD i d, b.getD i d) := by
  have hz : i < (a.zip b).length := by rw [List.length_zip]; omega
  simp only [List.getD_eq_getElem?_getD, List.getElem?_eq_getElem hz, List.getElem?_eq_getElem ha, List.getElem?_eq_getElem hb, Option.getD_some, List.getElem_zip]
theorem itX_zip {V A α : Type} {ss : V → V ⊕ A} {fa : A} (pk : Nat → V) (a b : List α) (d : α) (q : α → α → Bool) (bad last : A) (hab : a.length = b.length) (hn : a.length < 4611686018427387904)
    (h : ∀ i, i < a.length → ss (pk i) = cond (q (a.getD i d) (b.getD i d)) (.inl (pk (i + 1))) (.inr bad)) (hl : ss (pk a.length) = .inr last) : itX ss fa (pk 0) = cond (zipQ q a b) last bad := by
  have hz : (a.zip b).length = a.length := by rw [List.length_zip]; omega
  rw [itX_any pk (a.zip b) (d, d) (fun p => !(q p.1 p.2)) bad last (by omega) (fun i hi => by
    rw [hz] at hi
    rw [h i hi, zip_getD a b d hi (by omega)]
    cases q (a.getD i d) (b.getD i d) <;> rfl) (by rw [hz]; exact hl)]
  have : (a.zip b).any (fun p => !(q p.1 p.2)) = !(zipQ q a b) := by
    simp only [zipQ, List.all_eq_not_any_not, Bool.not_not]
  rw [this]
  cases zipQ q a b <;> rfl
theorem eq_len {α : Type} {a b : List α} (h : a.length = b.length) : (((a.length : Nat) : Int) != ((b.length : Nat) : Int)) = false := by
  rw [h]; simp
theorem ne_len {α : Type} {a b : List α} (h : ¬ a.length = b.length) : (((a.length : Nat) : Int) != ((b.length : Nat) : Int)) = true := by
  simp only [bne_iff_ne, ne_eq]; omega
theorem samePairs_spec (a b : List PairD) (hl : a.length ≤ 1099511627776) : q_sl9SamePairs a b = true ∧ sl9SamePairs a b = sameL qP a b := by
  simp only [q_sl9SamePairs, sl9SamePairs, sameL]
  by_cases hab : a.length = b.length
  · have e : it_sl9SamePairs_0 a b 0 = cond (zipQ qP a b) (1, false) (0, false) := by
      refine itX_zip (ss := fun v : V_sl9SamePairs_0 => ss_sl9SamePairs_0 v.1 v.2.1 v.2.2) (fa := fl_sl9SamePairs_0) (fun i => ((a, b, (i : Int)) : V_sl9SamePairs_0)) a b dP qP _ _ hab (by omega) (fun i hi => ?_) ?_
      · have h1 : decide ((i : Int) < ((a.length : Nat) : Int)) = true := decide_eq_true (by omega)
        have h2 : decide (0 ≤ (i : Int) ∧ (i : Int) < ((a.length : Nat) : Int)) = true := decide_eq_true (by omega)
        have h3 : decide (0 ≤ (i : Int) ∧ (i : Int) < ((b.length : Nat) : Int)) = true := decide_eq_true (by omega)
        simp only [ss_sl9SamePairs_0, h1, h2, h3, cond_true, Int.toNat_natCast, wrapU i (by omega), getD_dP, qP]
        generalize ((a.getD i dP).1.toList == (b.getD i dP).1.toList && ((a.getD i dP).2.toList == (b.getD i dP).2.toList && true)) = z
        cases z <;> rfl
      · have h1 : decide (((a.length : Nat) : Int) < ((a.length : Nat) : Int)) = false := decide_eq_false (by omega)
        simp only [ss_sl9SamePairs_0, h1, cond_false]
    rw [eq_len hab, e]
    cases zipQ qP a b <;> exact ⟨rfl, rfl⟩
  · rw [ne_len hab]; exact ⟨rfl, rfl⟩
theorem equalPairs_spec (a b : List PairD) (hl : a.length ≤ 1099511627776) : q_slices_Equal_iPair a b = true ∧ slices_Equal_iPair a b = sameL qP a b := by
  simp only [q_slices_Equal_iPair, slices_Equal_iPair, sameL]
  by_cases hab : a.length = b.length
  · have e : it_slices_Equal_iPair_0 a b ((a.length : Nat) : Int) 0 = cond (zipQ qP a b) (1, false) (0, false) := by
      refine itX_zip (ss := fun v : V_slices_Equal_iPair_0 => ss_slices_Equal_iPair_0 v.1 v.2.1 v.2.2.1 v.2.2.2) (fa := fl_slices_Equal_iPair_0) (fun i => ((a, b, ((a.length : Nat) : Int), (i : Int)) : V_slices_Equal_iPair_0)) a b dP qP _ _ hab (by omega) (fun i hi => ?_) ?_
      · have h1 : decide ((i : Int) < ((a.length : Nat) : Int)) = true := decide_eq_true (by omega)
        have h2 : decide (0 ≤ (i : Int) ∧ (i : Int) < ((a.length : Nat) : Int)) = true := decide_eq_true (by omega)
        have h3 : decide (0 ≤ (i : Int) ∧ (i : Int) < ((b.length : Nat) : Int)) = true := decide_eq_true (by omega)
        simp only [ss_slices_Equal_iPair_0, h1, h2, h3, cond_true, Int.toNat_natCast, wrapU i (by omega), getD_dP, qP]
        generalize ((a.getD i dP).1.toList == (b.getD i dP).1.toList && ((a.getD i dP).2.toList == (b.getD i dP).2.toList && true)) = z
        cases z <;> rfl
      · have h1 : decide (((a.length : Nat) : Int) < ((a.length : Nat) : Int)) = false := decide_eq_false (by omega)
        simp only [ss_slices_Equal_iPair_0, h1, cond_false]
    rw [eq_len hab, e]
    cases zipQ qP a b <;> exact ⟨rfl, rfl⟩
  · rw [ne_len hab]; exact ⟨rfl, rfl⟩
noncomputable def qO (x y : Int × ByteArray × ByteArray) : Bool := (x.1 == y.1) && ((x.2.1.toList == y.2.1.toList) && ((x.2.2.toList == y.2.2.toList) && true))
noncomputable def qR (x y : RecD) : Bool := cond (x.1 != y.1) false (cond (x.2.1 != y.2.1) false (sameL qO x.2.2 y.2.2))
theorem sameOps_spec (a b : LIBBe) (hl : a.length ≤ 1099511627776) : q_sl9SameOps a b = true ∧ sl9SameOps a b = sameL qO a b := by
  simp only [q_sl9SameOps, sl9SameOps, sameL]
  by_cases hab : a.length = b.length
  · have e : it_sl9SameOps_0 a b 0 = cond (zipQ qO a b) (1, false) (0, false) := by
      refine itX_zip (ss := fun v : V_sl9SameOps_0 => ss_sl9SameOps_0 v.1 v.2.1 v.2.2) (fa := fl_sl9SameOps_0) (fun i => ((a, b, (i : Int)) : V_sl9SameOps_0)) a b dOp qO _ _ hab (by omega) (fun i hi => ?_) ?_
      · have h1 : decide ((i : Int) < ((a.length : Nat) : Int)) = true := decide_eq_true (by omega)
        have h2 : decide (0 ≤ (i : Int) ∧ (i : Int) < ((a.length : Nat) : Int)) = true := decide_eq_true (by omega)
        have h3 : decide (0 ≤ (i : Int) ∧ (i : Int) < ((b.length : Nat) : Int)) = true := decide_eq_true (by omega)
        simp only [ss_sl9SameOps_0, h1, h2, h3, cond_true, Int.toNat_natCast, wrapU i (by omega), getD_dO, qO]
        generalize ((a.getD i dOp).1 == (b.getD i dOp).1 && ((a.getD i dOp).2.1.toList == (b.getD i dOp).2.1.toList && ((a.getD i dOp).2.2.toList == (b.getD i dOp).2.2.toList && true))) = z
        cases z <;> rfl
      · have h1 : decide (((a.length : Nat) : Int) < ((a.length : Nat) : Int)) = false := decide_eq_false (by omega)
        simp only [ss_sl9SameOps_0, h1, cond_false]
    rw [eq_len hab, e]
    cases zipQ qO a b <;> exact ⟨rfl, rfl⟩
  · rw [ne_len hab]; exact ⟨rfl, rfl⟩
theorem sameRecs_spec (a b : List RecD) (hl : a.length ≤ 1099511627776) (ho : ∀ x ∈ a, x.2.2.length ≤ 1048576) : q_sl9SameRecs a b = true ∧ sl9SameRecs a b = sameL qR a b := by
  simp only [q_sl9SameRecs, sl9SameRecs, sameL]
  by_cases hab : a.length = b.length
  · have e : it_sl9SameRecs_0 a b 0 = cond (zipQ qR a b) (1, false) (0, false) := by
      refine itX_zip (ss := fun v : V_sl9SameRecs_0 => ss_sl9SameRecs_0 v.1 v.2.1 v.2.2) (fa := fl_sl9SameRecs_0) (fun i => ((a, b, (i : Int)) : V_sl9SameRecs_0)) a b dRec qR _ _ hab (by omega) (fun i hi => ?_) ?_
      · have h1 : decide ((i : Int) < ((a.length : Nat) : Int)) = true := decide_eq_true (by omega)
        have h2 : decide (0 ≤ (i : Int) ∧ (i : Int) < ((a.length : Nat) : Int)) = true := decide_eq_true (by omega)
        have h3 : decide (0 ≤ (i : Int) ∧ (i : Int) < ((b.length : Nat) : Int)) = true := decide_eq_true (by omega)
        obtain ⟨o1, o2⟩ := sameOps_spec (a.getD i dRec).2.2 (b.getD i dRec).2.2 (by have := ho _ (getD_mem hi dRec); omega)
        simp only [ss_sl9SameRecs_0, k1_sl9SameRecs, h1, h2, h3, cond_true, Int.toNat_natCast, wrapU i (by omega), getD_dR, o1, o2, qR]
        cases ((a.getD i dRec).1 != (b.getD i dRec).1) <;> cases ((a.getD i dRec).2.1 != (b.getD i dRec).2.1) <;> cases sameL qO (a.getD i dRec).2.2 (b.getD i dRec).2.2 <;> rfl
      · have h1 : decide (((a.length : Nat) : Int) < ((a.length : Nat) : Int)) = false := decide_eq_false (by omega)
        simp only [ss_sl9SameRecs_0, h1, cond_false]
    rw [eq_len hab, e]
    cases zipQ qR a b <;> exact ⟨rfl, rfl⟩
  · rw [ne_len hab]; exact ⟨rfl, rfl⟩
theorem equalOps_spec (a b : LIBBe) (hl : a.length ≤ 1099511627776) : q_slices_Equal_iOp a b = true ∧ slices_Equal_iOp a b = sameL qO a b := by
  simp only [q_slices_Equal_iOp, slices_Equal_iOp, sameL]
  by_cases hab : a.length = b.length
  · have e : it_slices_Equal_iOp_0 a b ((a.length : Nat) : Int) 0 = cond (zipQ qO a b) (1, false) (0, false) := by
      refine itX_zip (ss := fun v : V_slices_Equal_iOp_0 => ss_slices_Equal_iOp_0 v.1 v.2.1 v.2.2.1 v.2.2.2) (fa := fl_slices_Equal_iOp_0) (fun i => ((a, b, ((a.length : Nat) : Int), (i : Int)) : V_slices_Equal_iOp_0)) a b dOp qO _ _ hab (by omega) (fun i hi => ?_) ?_
      · have h1 : decide ((i : Int) < ((a.length : Nat) : Int)) = true := decide_eq_true (by omega)
        have h2 : decide (0 ≤ (i : Int) ∧ (i : Int) < ((a.length : Nat) : Int)) = true := decide_eq_true (by omega)
        have h3 : decide (0 ≤ (i : Int) ∧ (i : Int) < ((b.length : Nat) : Int)) = true := decide_eq_true (by omega)
        simp only [ss_slices_Equal_iOp_0, h1, h2, h3, cond_true, Int.toNat_natCast, wrapU i (by omega), getD_dO, qO]
        generalize ((a.getD i dOp).1 == (b.getD i dOp).1 && ((a.getD i dOp).2.1.toList == (b.getD i dOp).2.1.toList && ((a.getD i dOp).2.2.toList == (b.getD i dOp).2.2.toList && true))) = z
        cases z <;> rfl
      · have h1 : decide (((a.length : Nat) : Int) < ((a.length : Nat) : Int)) = false := decide_eq_false (by omega)
        simp only [ss_slices_Equal_iOp_0, h1, cond_false]
    rw [eq_len hab, e]
    cases zipQ qO a b <;> exact ⟨rfl, rfl⟩
  · rw [ne_len hab]; exact ⟨rfl, rfl⟩
theorem sameRec_qR (x y : RecD) (hl : x.2.2.length ≤ 1048576) : q_isameRec x.1 x.2.1 x.2.2 y.1 y.2.1 y.2.2 = true ∧ isameRec x.1 x.2.1 x.2.2 y.1 y.2.1 y.2.2 = qR x y := by
  obtain ⟨o1, o2⟩ := equalOps_spec x.2.2 y.2.2 (by omega)
  simp only [q_isameRec, isameRec, o1, o2, qR, bne]
  cases (x.1 == y.1) <;> cases (x.2.1 == y.2.1) <;> exact ⟨rfl, rfl⟩
theorem equalRecs_spec (a b : List RecD) (hl : a.length ≤ 1099511627776) (ho : ∀ x ∈ a, x.2.2.length ≤ 1048576) : q_slices_EqualFunc_iReciRec_iRec_iRec_ a b = true ∧ slices_EqualFunc_iReciRec_iRec_iRec_ a b = sameL qR a b := by
  simp only [q_slices_EqualFunc_iReciRec_iRec_iRec_, slices_EqualFunc_iReciRec_iRec_iRec_, sameL]
  by_cases hab : a.length = b.length
  · have e : it_slices_EqualFunc_iReciRec_iRec_iRec__0 b a ((a.length : Nat) : Int) 0 = cond (zipQ qR a b) (1, false) (0, false) := by
      refine itX_zip (ss := fun v : V_slices_EqualFunc_iReciRec_iRec_iRec__0 => ss_slices_EqualFunc_iReciRec_iRec_iRec__0 v.1 v.2.1 v.2.2.1 v.2.2.2) (fa := fl_slices_EqualFunc_iReciRec_iRec_iRec__0) (fun i => ((b, a, ((a.length : Nat) : Int), (i : Int)) : V_slices_EqualFunc_iReciRec_iRec_iRec__0)) a b dRec qR _ _ hab (by omega) (fun i hi => ?_) ?_
      · have h1 : decide ((i : Int) < ((a.length : Nat) : Int)) = true := decide_eq_true (by omega)
        have h2 : decide (0 ≤ (i : Int) ∧ (i : Int) < ((a.length : Nat) : Int)) = true := decide_eq_true (by omega)
        have h3 : decide (0 ≤ (i : Int) ∧ (i : Int) < ((b.length : Nat) : Int)) = true := decide_eq_true (by omega)
        obtain ⟨o1, o2⟩ := sameRec_qR (a.getD i dRec) (b.getD i dRec) (ho _ (getD_mem hi dRec))
        simp only [ss_slices_EqualFunc_iReciRec_iRec_iRec__0, k1_slices_EqualFunc_iReciRec_iRec_iRec_, h1, h2, h3, cond_true, Int.toNat_natCast, wrapU i (by omega), getD_dR, o1, o2]
        cases qR (a.getD i dRec) (b.getD i dRec) <;> rfl
      · have h1 : decide (((a.length : Nat) : Int) < ((a.length : Nat) : Int)) = false := decide_eq_false (by omega)
        simp only [ss_slices_EqualFunc_iReciRec_iRec_iRec__0, h1, cond_false]
    rw [eq_len hab, e]
    cases zipQ qR a b <;> exact ⟨rfl, rfl⟩
  · rw [ne_len hab]; exact ⟨rfl, rfl⟩
theorem shardOk_same {x : ShardD} (h : okShard x) : q_sShardOk x.1 x.2.1 x.2.2.1 x.2.2.2.1 x.2.2.2.2 = true ∧ q_iShardOk x.1 x.2.1 x.2.2.1 x.2.2.2.1 x.2.2.2.2 = true ∧ sShardOk x.1 x.2.1 x.2.2.1 x.2.2.2.1 x.2.2.2.2 = iShardOk x.1 x.2.1 x.2.2.1 x.2.2.2.1 x.2.2.2.2 := by
  obtain ⟨h1, h3, h4⟩ := h
  obtain ⟨s1, s2⟩ := sReplay_spec x.2.1 h1.1 (okRecS_ops h1)
  obtain ⟨i1, i2⟩ := iReplay_spec x.2.1 h1.1 (okRecS_ops h1)
  obtain ⟨r1, r2, r3⟩ := repOut_ok h1
  have hl1 := h1.1
  have hl4 := h4.1
  obtain ⟨a1, a2⟩ := samePairs_spec (repOut x.2.1).1 x.2.2.2.1 (by omega)
  obtain ⟨b1, b2⟩ := equalPairs_spec (repOut x.2.1).1 x.2.2.2.1 (by omega)
  obtain ⟨c1, c2⟩ := sameRecs_spec (repOut x.2.1).2.1 x.2.2.2.2 (by omega) r3
  obtain ⟨d1, d2⟩ := equalRecs_spec (repOut x.2.1).2.1 x.2.2.2.2 (by omega) r3
  have w1 := wrap64 (n := ((x.2.1.length : Nat) : Int) + ((x.2.2.2.2.length : Nat) : Int)) (by omega) (by omega)
  have w2 := wrap64 (n := ((x.2.1.length : Nat) : Int) + (((repOut x.2.1).2.1.length : Nat) : Int)) (by omega) (by omega)
  have n1 : ∀ z : Int, iisId z = sl1In z 0 7 := fun z => rfl
  have n2 : ∀ z p q : Int, iinRange z p q = sl1In z p q := fun z p q => rfl
  simp only [q_sShardOk, q_iShardOk, sShardOk, iShardOk, s1, s2, i1, i2, a1, a2, b1, b2, c1, c2, d1, d2, w1, w2, n1, n2, Bool.true_and]
  cases sl1In x.1 0 7 with
  | false => exact ⟨rfl, rfl, rfl⟩
  | true =>
    simp only [Bool.not_true, cond_false]
    cases sl1In x.2.2.1 0 ((x.2.1.length : Nat) : Int) with
    | false =>
      simp only [Bool.not_false, cond_true, cond_false]
      cases decide (((x.2.1.length : Nat) : Int) > 300) <;> first | exact ⟨rfl, rfl, rfl⟩ | exact ⟨rfl, trivial, rfl⟩ | exact ⟨trivial, rfl, rfl⟩ | exact ⟨trivial, trivial, rfl⟩ | exact ⟨rfl, rfl, trivial⟩ | (simp)
    | true =>
      simp only [Bool.not_true, cond_false]
      cases hrep : (repOut x.2.1).2.2 with
      | false => cases decide (((x.2.1.length : Nat) : Int) > 300) <;> cases decide (((x.2.1.length : Nat) : Int) + ((x.2.2.2.2.length : Nat) : Int) > 300) <;> exact ⟨rfl, rfl, rfl⟩
      | true =>
        simp only [cond_true]
        cases sameL qP (repOut x.2.1).1 x.2.2.2.1 with
        | false => cases decide (((x.2.1.length : Nat) : Int) > 300) <;> cases decide (((x.2.1.length : Nat) : Int) + ((x.2.2.2.2.length : Nat) : Int) > 300) <;> exact ⟨rfl, rfl, rfl⟩
        | true =>
          simp only [cond_true]
          cases hs : sameL qR (repOut x.2.1).2.1 x.2.2.2.2 with
          | false => cases decide (((x.2.1.length : Nat) : Int) > 300) <;> cases decide (((x.2.1.length : Nat) : Int) + ((x.2.2.2.2.length : Nat) : Int) > 300) <;> exact ⟨rfl, rfl, rfl⟩
          | true =>
            have hlen : (repOut x.2.1).2.1.length = x.2.2.2.2.length := by
              by_cases he : (repOut x.2.1).2.1.length = x.2.2.2.2.length
              · exact he
              · simp only [sameL, ne_len he, cond_true] at hs; cases hs
            rw [hlen]
            by_cases g1 : ((x.2.1.length : Nat) : Int) > 300
            · rw [decide_eq_true g1, decide_eq_true (show ((x.2.1.length : Nat) : Int) + ((x.2.2.2.2.length : Nat) : Int) > 300 by omega)]
              exact ⟨rfl, rfl, rfl⟩
            · rw [decide_eq_false g1]
              by_cases g2 : ((x.2.1.length : Nat) : Int) + ((x.2.2.2.2.length : Nat) : Int) > 300
              · rw [decide_eq_true g2, decide_eq_false (show ¬ ((x.2.1.length : Nat) : Int) + ((x.2.2.2.2.length : Nat) : Int) ≤ 300 by omega)]
                exact ⟨rfl, rfl, rfl⟩
              · rw [decide_eq_false g2, decide_eq_true (show ((x.2.1.length : Nat) : Int) + ((x.2.2.2.2.length : Nat) : Int) ≤ 300 by omega)]
                exact ⟨rfl, rfl, rfl⟩
/-- A shard that is right: by its log. -/
noncomputable abbrev RightS (x : ShardD) : Prop := (0 ≤ x.1 ∧ x.1 ≤ 7) ∧ (0 ≤ x.2.2.1 ∧ x.2.2.1 ≤ ((x.2.1.length : Nat) : Int)) ∧ ((x.2.1.length : Nat) : Int) + ((x.2.2.2.2.length : Nat) : Int) ≤ 300 ∧ repL x.2.1 x.2.1.length = some (x.2.2.2.1, x.2.2.2.2)
/-- What came of one that is not held. -/
noncomputable def ofK (k : Int) : Int := cond (k == 0) 2 (cond (k == 2) 3 4)
/-- The last kind of a transaction in a log; 0: it has none. -/
noncomputable def lastK (l : List RecD) (t : Int) : Int := l.foldl (fun k r => cond (isTx t r) r.1 k) 0
/-- What came of a transaction at a right shard. -/
noncomputable def outOf (x : ShardD) (t : Int) : Int := cond (x.2.2.2.2.any (isTx t)) 1 (ofK (lastK x.2.1 t))
theorem recOk_kind {r : RecD} (h : sRecOk r.1 r.2.1 r.2.2 = true) : r.1 = 1 ∨ r.1 = 2 ∨ r.1 = 3 := by
  simp only [sRecOk] at h
  cases h1 : (r.1 == 1) with
  | true => exact .inl (beq_iff_eq.1 h1)
  | false =>
    cases h2 : (r.1 == 2) with
    | true => exact .inr (.inl (beq_iff_eq.1 h2))
    | false =>
      cases h3 : (r.1 == 3) with
      | true => exact .inr (.inr (beq_iff_eq.1 h3))
      | false => rw [h1, h2, h3] at h; revert h; cases sl1In r.2.1 1 1000000 <;> simp
theorem lastK_snoc (l : List RecD) (r : RecD) (t : Int) : lastK (l ++ [r]) t = cond (isTx t r) r.1 (lastK l t) := by simp [lastK]
theorem any_erase {h : List RecD} (h1 : oneTx h) (s t : Int) (ha : h.any (isTx s) = true) : (h.eraseIdx (h.findIdx (isTx s))).any (isTx t) = cond (t == s) false (h.any (isTx t)) := by
  have hlt := List.findIdx_lt_length.2 (List.any_eq_true.1 ha)
  have hs : (h.getD (h.findIdx (isTx s)) dRec).2.1 = s := by
    have := List.findIdx_getElem (w := hlt)
    rw [List.getD_eq_getElem?_getD, List.getElem?_eq_getElem hlt]
    exact beq_iff_eq.1 this
  generalize h.findIdx (isTx s) = k at hlt hs
  have gd : ∀ j (hj : j < h.length), h.getD j dRec = h[j] := fun j hj => by rw [List.getD_eq_getElem?_getD, List.getElem?_eq_getElem hj]; rfl
  cases hts : (t == s) with
  | true =>
    obtain rfl : t = s := beq_iff_eq.1 hts
    simp only [cond_true]
    cases hc : (h.eraseIdx k).any (isTx t) with
    | false => rfl
    | true =>
      obtain ⟨x, hx, hp⟩ := List.any_eq_true.1 hc
      obtain ⟨j, hj, hne, e⟩ := List.mem_eraseIdx_iff_getElem.1 hx
      have := oneTx_eq h1 hj hlt (by rw [gd j hj, e, hs]; exact beq_iff_eq.1 hp)
      exact absurd this hne
  | false =>
    simp only [cond_false]
    have hne : t ≠ s := by simpa using hts
    cases hb : h.any (isTx t) with
    | true =>
      obtain ⟨x, hx, hp⟩ := List.any_eq_true.1 hb
      obtain ⟨j, hj, e⟩ := List.mem_iff_getElem.1 hx
      refine List.any_eq_true.2 ⟨x, List.mem_eraseIdx_iff_getElem.2 ⟨j, hj, ?_, e⟩, hp⟩
      rintro rfl
      rw [gd j hj, e] at hs
      exact hne ((beq_iff_eq.1 (show (x.2.1 == t) = true from hp)).symm.trans hs)
    | false =>
      cases hc : (h.eraseIdx k).any (isTx t) with
      | false => rfl
      | true =>
        obtain ⟨x, hx, hp⟩ := List.any_eq_true.1 hc
        rw [List.any_eq_true.2 ⟨x, List.mem_of_mem_eraseIdx hx, hp⟩] at hb
        cases hb
theorem any_snoc (l : List RecD) (r : RecD) (t : Int) : (l ++ [r]).any (isTx t) = (l.any (isTx t) || isTx t r) := by simp
/-- Held are those whose last record holds. -/
theorem step_last {kn : Bool} {m m' : List PairD} {held h' : List RecD} {r : RecD} {l : List RecD} (h1 : oneTx held) (hh : ∀ t, held.any (isTx t) = (lastK l t == 1)) (h : stepL kn m held r = some (m', h')) :
    (r.1 = 1 ∨ r.1 = 2 ∨ r.1 = 3) ∧ ∀ t, h'.any (isTx t) = (lastK (l ++ [r]) t == 1) := by
  simp only [stepL] at h
  cases hok : sRecOk r.1 r.2.1 r.2.2 with
  | false => rw [hok] at h; simp at h
  | true =>
    have hkd := recOk_kind hok
    refine ⟨hkd, fun t => ?_⟩
    rw [lastK_snoc]
    simp only [hok, Bool.not_true, cond_false] at h
    have keep : ∀ b : Bool, r.1 ≠ 1 → held.any (isTx r.2.1) = false → held.any (isTx t) = (cond (isTx t r) r.1 (lastK l t) == 1) := fun _ hne ha => by
      cases hi : isTx t r with
      | false => exact hh t
      | true =>
        obtain rfl : r.2.1 = t := beq_iff_eq.1 hi
        rw [ha]
        exact (beq_eq_false_iff_ne.2 hne).symm
    have gone : r.1 ≠ 1 → held.any (isTx r.2.1) = true → (held.eraseIdx (held.findIdx (isTx r.2.1))).any (isTx t) = (cond (isTx t r) r.1 (lastK l t) == 1) := fun hne ha => by
      rw [any_erase h1 _ t ha]
      cases hi : isTx t r with
      | false =>
        have : (t == r.2.1) = false := by
          have : (r.2.1 == t) = false := hi
          rw [beq_eq_false_iff_ne] at this ⊢
          exact fun e => this e.symm
        rw [this]; exact hh t
      | true =>
        obtain rfl : r.2.1 = t := beq_iff_eq.1 hi
        rw [beq_self_eq_true]
        exact (beq_eq_false_iff_ne.2 hne).symm
    cases hk : (r.1 == 1) with
    | true =>
      have hk1 : r.1 = 1 := beq_iff_eq.1 hk
      simp only [hk, cond_true] at h
      cases kn with
      | true => simp at h
      | false =>
        cases hlk : lockedL held r.2.2 with
        | true => rw [hlk] at h; simp at h
        | false =>
          rw [hlk] at h
          cases hmt : meetsL m r.2.2 with
          | false => rw [hmt] at h; simp at h
          | true =>
            rw [hmt] at h
            simp only [Bool.not_true, cond_false, Option.some.injEq, Prod.mk.injEq] at h
            obtain ⟨rfl, rfl⟩ := h
            rw [any_snoc, hh t]
            show (lastK l t == 1 || isTx t r) = _
            cases isTx t r with
            | false => simp
            | true => rw [hk1]; simp
    | false =>
      have hne : r.1 ≠ 1 := by simpa using hk
      simp only [hk, cond_false] at h
      cases ha : held.any (isTx r.2.1) with
      | false =>
        simp only [ha, Bool.not_false, cond_true] at h
        cases h3 : (r.1 == 3) with
        | false => rw [h3] at h; simp at h
        | true =>
          rw [h3] at h
          cases kn with
          | true => simp at h
          | false =>
            simp only [cond_true, cond_false, Option.some.injEq, Prod.mk.injEq] at h
            obtain ⟨rfl, rfl⟩ := h
            exact keep true hne ha
      | true =>
        simp only [ha, Bool.not_true, cond_false] at h
        cases h2 : (r.1 == 2) with
        | true =>
          simp only [h2, cond_true] at h
          by_cases hc : ((((held.getD (held.findIdx (isTx r.2.1)) dRec).2.2.foldl appL m).length : Nat) : Int) ≤ 60
          · rw [decide_eq_true hc] at h
            simp only [cond_true, Option.some.injEq, Prod.mk.injEq] at h
            obtain ⟨rfl, rfl⟩ := h
            exact gone hne ha
          · rw [decide_eq_false hc] at h; simp at h
        | false =>
          simp only [h2, cond_false] at h
          by_cases hc : ((m.length : Nat) : Int) ≤ 60
          · rw [decide_eq_true hc] at h
            simp only [cond_true, Option.some.injEq, Prod.mk.injEq] at h
            obtain ⟨rfl, rfl⟩ := h
            exact gone hne ha
          · rw [decide_eq_false hc] at h; simp at h
theorem rep_last {l : List RecD} (hr : ∀ x ∈ l, okOps x.2.2 = true) : ∀ i, i ≤ l.length → ∀ m held, repL l i = some (m, held) → (∀ x ∈ l.take i, x.1 = 1 ∨ x.1 = 2 ∨ x.1 = 3) ∧ ∀ t, held.any (isTx t) = (lastK (l.take i) t == 1) := by
  intro i
  induction i with
  | zero =>
    intro _ m held h
    simp only [repL, Option.some.injEq, Prod.mk.injEq] at h
    obtain ⟨rfl, rfl⟩ := h
    exact ⟨fun x hx => by simp at hx, fun t => rfl⟩
  | succ i ih =>
    intro hi m held h
    simp only [repL] at h
    cases hp : repL l i with
    | none => rw [hp] at h; cases h
    | some s =>
      rw [hp] at h
      obtain ⟨k1, k2⟩ := ih (by omega) s.1 s.2 (by rw [hp])
      have I := rep_ok hr i (by omega) s.1 s.2 (by rw [hp])
      have e : l.take (i + 1) = l.take i ++ [l.getD i dRec] := take_succ_getD (by omega) dRec
      obtain ⟨o1, o2⟩ := step_last I.hone k2 h
      rw [e]
      refine ⟨fun x hx => ?_, o2⟩
      rcases List.mem_append.1 hx with hx | hx
      · exact k1 x hx
      · rw [List.mem_singleton.1 hx]; exact o1
theorem right_last {x : ShardD} (hl : okRecS x.2.1) (h : RightS x) : (∀ r ∈ x.2.1, r.1 = 1 ∨ r.1 = 2 ∨ r.1 = 3) ∧ ∀ t, x.2.2.2.2.any (isTx t) = (lastK x.2.1 t == 1) := by
  have := rep_last (okRecS_ops hl) x.2.1.length (Nat.le_refl _) _ _ h.2.2.2
  rwa [List.take_length] at this
noncomputable def outF (l : List RecD) (t : Int) : Int := l.foldl (fun o r => cond (isTx t r && (r.1 == 3)) 4 (cond (isTx t r && (r.1 == 2)) 3 o)) 2
theorem outF_snoc (l : List RecD) (r : RecD) (t : Int) : outF (l ++ [r]) t = cond (isTx t r && (r.1 == 3)) 4 (cond (isTx t r && (r.1 == 2)) 3 (outF l t)) := by simp [outF]
theorem l8At_ge (l : List RecD) (t : Int) (hl : l.length ≤ 1099511627776) : decide (sl8At l t ≥ 0) = l.any (isTx t) := by
  have h := l8At_neg l t hl
  have e : decide (sl8At l t ≥ 0) = !(decide (sl8At l t < 0)) := by
    by_cases h : sl8At l t < 0
    · rw [decide_eq_true h, decide_eq_false (by omega)]; rfl
    · rw [decide_eq_false h, decide_eq_true (by omega)]; rfl
  rw [e, h, Bool.not_not]
theorem sOut_spec (x : ShardD) (t : Int) (hl : x.2.1.length ≤ 1099511627776) (hh : x.2.2.2.2.length ≤ 1099511627776) : q_sl9Outcome x.1 x.2.1 x.2.2.1 x.2.2.2.1 x.2.2.2.2 t = true ∧
    sl9Outcome x.1 x.2.1 x.2.2.1 x.2.2.2.1 x.2.2.2.2 t = cond (x.2.2.2.2.any (isTx t)) 1 (outF x.2.1 t) := by
  have e : it_sl9Outcome_0 t 2 0 x.1 x.2.1 x.2.2.1 x.2.2.2.1 x.2.2.2.2 = (0, outF x.2.1 t) := by
    refine itX_inv (ss := fun v : V_sl9Outcome_0 => ss_sl9Outcome_0 v.1 v.2.1 v.2.2 x.1 x.2.1 x.2.2.1 x.2.2.2.1 x.2.2.2.2) (fa := fl_sl9Outcome_0)
      (fun v => ∃ i : Nat, v = (t, outF (x.2.1.take i) t, (i : Int)) ∧ i ≤ x.2.1.length) (fun a => a = (0, outF x.2.1 t)) (fun v => x.2.1.length - v.2.2.toNat) ?_ ⟨0, rfl, Nat.zero_le _⟩ (by simp; omega)
    rintro v ⟨i, rfl, hi⟩
    by_cases hlt : i < x.2.1.length
    · have e1 : decide ((i : Int) < ((x.2.1.length : Nat) : Int)) = true := decide_eq_true (by omega)
      have e2 : decide (0 ≤ (i : Int) ∧ (i : Int) < ((x.2.1.length : Nat) : Int)) = true := decide_eq_true (by omega)
      have e3 : outF (x.2.1.take (i + 1)) t = _ := (congrArg (outF · t) (take_succ_getD hlt dRec)).trans (outF_snoc _ _ _)
      refine .inl ⟨(t, outF (x.2.1.take (i + 1)) t, ((i + 1 : Nat) : Int)), ?_, ⟨i + 1, rfl, by omega⟩, by simp only [Int.toNat_natCast]; omega⟩
      rw [e3]
      simp only [ss_sl9Outcome_0, e1, e2, cond_true, Int.toNat_natCast, getD_dR, wrapU i (by omega), isTx]
      generalize (x.2.1.getD i dRec).1 = kd
      cases ((x.2.1.getD i dRec).2.1 == t) with
      | false => simp only [cond_false, Bool.false_and]
      | true =>
        simp only [cond_true, Bool.true_and]
        cases (kd == 2) <;> cases (kd == 3) <;> rfl
    · obtain rfl : i = x.2.1.length := by omega
      have e1 : decide ((x.2.1.length : Int) < ((x.2.1.length : Nat) : Int)) = false := decide_eq_false (by omega)
      simp only [ss_sl9Outcome_0, e1, cond_false, List.take_length]
      exact .inr ⟨_, rfl, rfl⟩
  have a1 := (l8At_spec x.2.2.2.2 t hh).1
  have a2 := l8At_ge x.2.2.2.2 t hh
  simp only [q_sl9Outcome, sl9Outcome, a1, a2, e]
  cases x.2.2.2.2.any (isTx t) <;> first | exact ⟨rfl, rfl⟩ | exact ⟨trivial, rfl⟩ | simp
theorem snoc_ind {α : Type} {P : List α → Prop} (h0 : P []) (hs : ∀ l x, P l → P (l ++ [x])) (l : List α) : P l := by
  rw [← List.reverse_reverse l]
  induction l.reverse with
  | nil => exact h0
  | cons x l ih => rw [List.reverse_cons]; exact hs _ _ ih
theorem lastK_zero {t : Int} {l : List RecD} (h : l.any (isTx t) = false) : lastK l t = 0 := by
  induction l using snoc_ind with
  | h0 => rfl
  | hs l r ih =>
    rw [any_snoc, Bool.or_eq_false_iff] at h
    rw [lastK_snoc, h.2]
    exact ih h.1
theorem recAt_kind (t : Int) (l : List RecD) (hl : l.length ≤ 1099511627776) (ha : l.any (isTx t) = true) : decide (0 ≤ irecAt l t ∧ irecAt l t < ((l.length : Nat) : Int)) = true ∧ (l.getD (irecAt l t).toNat dRec).1 = lastK l t := by
  have h2 : l.reverse.findIdx (isTx t) < l.length := by
    rw [← List.length_reverse]
    refine List.findIdx_lt_length.2 ?_
    obtain ⟨x, hx, hp⟩ := List.any_eq_true.1 ha
    exact ⟨x, List.mem_reverse.2 hx, hp⟩
  rw [(recAt_spec l t hl).2, decide_eq_true h2]
  simp only [cond_true]
  refine ⟨decide_eq_true (by omega), ?_⟩
  have e3 : (((l.length : Nat) : Int) - 1 - ((l.reverse.findIdx (isTx t) : Nat) : Int)).toNat = l.length - 1 - l.reverse.findIdx (isTx t) := by omega
  rw [e3]
  clear e3 h2 hl
  induction l using snoc_ind with
  | h0 => cases ha
  | hs l r ih =>
    rw [lastK_snoc, List.reverse_append, List.reverse_cons, List.reverse_nil, List.nil_append, List.singleton_append, List.findIdx_cons]
    cases hr : isTx t r with
    | true => simp [List.getD_eq_getElem?_getD]
    | false =>
      simp only [cond_false]
      rw [any_snoc, hr, Bool.or_false] at ha
      rw [← ih ha]
      have h2 : l.reverse.findIdx (isTx t) < l.reverse.length := by
        refine List.findIdx_lt_length.2 ?_
        obtain ⟨x, hx, hp⟩ := List.any_eq_true.1 ha
        exact ⟨x, List.mem_reverse.2 hx, hp⟩
      rw [List.length_reverse] at h2
      have e4 : (l ++ [r]).length - 1 - (l.reverse.findIdx (isTx t) + 1) = l.length - 1 - l.reverse.findIdx (isTx t) := by rw [List.length_append]; simp; omega
      rw [e4]
      simp only [List.getD_eq_getElem?_getD]
      rw [List.getElem?_append_left (by omega)]
theorem lastK_in (t : Int) (l : List RecD) : (∀ x ∈ l, x.1 = 1 ∨ x.1 = 2 ∨ x.1 = 3) → (lastK l t = 0 ∧ l.any (isTx t) = false) ∨ ((lastK l t = 1 ∨ lastK l t = 2 ∨ lastK l t = 3) ∧ l.any (isTx t) = true) := by
  induction l using snoc_ind with
  | h0 => intro _; exact .inl ⟨rfl, rfl⟩
  | hs l r ih =>
    intro h
    have := ih (fun x hx => h x (by simp [hx]))
    rw [lastK_snoc, any_snoc]
    cases hr : isTx t r with
    | true => exact .inr ⟨h r (by simp), by simp⟩
    | false => simp only [cond_false, Bool.or_false]; exact this
theorem iOut_spec (x : ShardD) (t : Int) (hl : x.2.1.length ≤ 1099511627776) (hh : x.2.2.2.2.length ≤ 1099511627776) (hk : ∀ r ∈ x.2.1, r.1 = 1 ∨ r.1 = 2 ∨ r.1 = 3) : q_iShard_outcome t x.1 x.2.1 x.2.2.1 x.2.2.2.1 x.2.2.2.2 = true ∧
    iShard_outcome t x.1 x.2.1 x.2.2.1 x.2.2.2.1 x.2.2.2.2 = cond (x.2.2.2.2.any (isTx t)) 1 (ofK (lastK x.2.1 t)) := by
  obtain ⟨a1, _⟩ := recAt_spec x.2.2.2.2 t hh
  obtain ⟨_, a3⟩ := recAt_neg x.2.2.2.2 t hh
  obtain ⟨b1, _⟩ := recAt_spec x.2.1 t hl
  obtain ⟨b2, _⟩ := recAt_neg x.2.1 t hl
  simp only [q_iShard_outcome, iShard_outcome, a1, a3, b1, b2, Bool.true_and, getD_dR]
  cases x.2.2.2.2.any (isTx t) with
  | true => exact ⟨rfl, rfl⟩
  | false =>
    simp only [cond_false]
    cases ha : x.2.1.any (isTx t) with
    | false => rw [lastK_zero ha]; exact ⟨rfl, rfl⟩
    | true =>
      obtain ⟨c1, c2⟩ := recAt_kind t x.2.1 hl ha
      simp only [Bool.not_true, cond_false, c1, c2]
      refine ⟨trivial, ?_⟩
      rcases lastK_in t x.2.1 hk with ⟨_, h⟩ | ⟨h, _⟩
      · rw [ha] at h; cases h
      · rcases h with h | h | h <;> rw [h] <;> rfl
theorem outF_of (t : Int) (l : List RecD) : (∀ x ∈ l, x.1 = 1 ∨ x.1 = 2 ∨ x.1 = 3) → lastK l t ≠ 1 → outF l t = ofK (lastK l t) := by
  induction l using snoc_ind with
  | h0 => intro _ _; rfl
  | hs l r ih =>
    intro h
    have hr := h r (by simp)
    rw [lastK_snoc, outF_snoc]
    cases isTx t r with
    | false => exact ih (fun x hx => h x (by simp [hx]))
    | true =>
      simp only [cond_true, Bool.true_and]
      intro hn
      rcases hr with e | e | e
      · exact absurd e hn
      · rw [e]; rfl
      · rw [e]; rfl
theorem out_same {x : ShardD} (h : okShard x) (hr : RightS x) (t : Int) : (q_sl9Outcome x.1 x.2.1 x.2.2.1 x.2.2.2.1 x.2.2.2.2 t = true ∧ sl9Outcome x.1 x.2.1 x.2.2.1 x.2.2.2.1 x.2.2.2.2 t = outOf x t) ∧
    (q_iShard_outcome t x.1 x.2.1 x.2.2.1 x.2.2.2.1 x.2.2.2.2 = true ∧ iShard_outcome t x.1 x.2.1 x.2.2.1 x.2.2.2.1 x.2.2.2.2 = outOf x t) := by
  have hl1 := h.1.1
  have hl4 := h.2.2.1
  obtain ⟨k1, k2⟩ := right_last h.1 hr
  obtain ⟨s1, s2⟩ := sOut_spec x t (by omega) (by omega)
  refine ⟨⟨s1, ?_⟩, iOut_spec x t (by omega) (by omega) k1⟩
  rw [s2, outOf, k2 t]
  cases hc : (lastK x.2.1 t == 1) with
  | true => rfl
  | false =>
    simp only [cond_false]
    exact outF_of t x.2.1 k1 (by simpa using hc)
theorem in_iff (z p q : Int) : sl1In z p q = decide (p ≤ z ∧ z ≤ q) := by
  by_cases h1 : p ≤ z
  · by_cases h2 : z ≤ q
    · rw [decide_eq_true (And.intro h1 h2)]; simp [sl1In, h1, h2]
    · rw [decide_eq_false (fun h => h2 h.2)]; simp [sl1In, h1, h2]
  · rw [decide_eq_false (fun h => h1 h.1)]; simp [sl1In, h1]
theorem zipQ_eq {α : Type} (q : α → α → Bool) (hq : ∀ x y, q x y = true → x = y) : ∀ (a b : List α), a.length = b.length → zipQ q a b = true → a = b := by
  intro a
  induction a with
  | nil => intro b h _; cases b with
    | nil => rfl
    | cons y b => simp at h
  | cons x a ih => intro b h hz; cases b with
    | nil => simp at h
    | cons y b =>
      simp only [zipQ, List.zip_cons_cons, List.all_cons, Bool.and_eq_true] at hz
      rw [hq x y hz.1, ih b (by simpa using h) hz.2]
theorem sameL_eq {α : Type} (q : α → α → Bool) (hq : ∀ x y, q x y = true → x = y) {a b : List α} (h : sameL q a b = true) : a = b := by
  by_cases hl : a.length = b.length
  · simp only [sameL, eq_len hl, cond_false] at h
    exact zipQ_eq q hq a b hl h
  · simp only [sameL, ne_len hl, cond_true] at h; cases h
theorem qP_iff (x y : PairD) : qP x y = true ↔ x = y := by
  simp only [qP, ba_beq, Bool.and_true, Bool.and_eq_true, decide_eq_true_eq]
  exact ⟨fun h => Prod.ext h.1 h.2, fun h => by rw [h]; exact ⟨rfl, rfl⟩⟩
theorem zipQ_refl {α : Type} (q : α → α → Bool) : ∀ (a : List α), (∀ x ∈ a, q x x = true) → zipQ q a a = true := by
  intro a
  induction a with
  | nil => intro _; rfl
  | cons x a ih =>
    intro h
    simp only [zipQ, List.zip_cons_cons, List.all_cons, Bool.and_eq_true]
    exact ⟨h x (by simp), ih (fun y hy => h y (by simp [hy]))⟩
theorem sameL_refl {α : Type} (q : α → α → Bool) {a : List α} (h : ∀ x ∈ a, q x x = true) : sameL q a a = true := by
  simp only [sameL, eq_len (a := a) (b := a) rfl, cond_false]
  exact zipQ_refl q a h
theorem sameP_iff (a b : List PairD) : sameL qP a b = true ↔ a = b :=
  ⟨sameL_eq qP (fun x y h => (qP_iff x y).1 h), fun h => by rw [h]; exact sameL_refl qP (fun x _ => (qP_iff x x).2 rfl)⟩
theorem qO_iff (x y : Int × ByteArray × ByteArray) : qO x y = true ↔ x = y := by
  simp only [qO, ba_beq, Bool.and_true, Bool.and_eq_true, decide_eq_true_eq, beq_iff_eq]
  exact ⟨fun h => Prod.ext h.1 (Prod.ext h.2.1 h.2.2), fun h => by rw [h]; exact ⟨rfl, rfl, rfl⟩⟩
theorem sameO_iff (a b : LIBBe) : sameL qO a b = true ↔ a = b :=
  ⟨sameL_eq qO (fun x y h => (qO_iff x y).1 h), fun h => by rw [h]; exact sameL_refl qO (fun x _ => (qO_iff x x).2 rfl)⟩
theorem qR_iff (x y : RecD) : qR x y = true ↔ x = y := by
  simp only [qR, bne]
  constructor
  · intro h
    cases h1 : (x.1 == y.1) with
    | false => rw [h1] at h; simp at h
    | true =>
      rw [h1] at h
      cases h2 : (x.2.1 == y.2.1) with
      | false => rw [h2] at h; simp at h
      | true =>
        rw [h2] at h
        exact Prod.ext (beq_iff_eq.1 h1) (Prod.ext (beq_iff_eq.1 h2) ((sameO_iff _ _).1 h))
  · rintro rfl
    rw [beq_self_eq_true, beq_self_eq_true]
    exact (sameO_iff _ _).2 rfl
theorem sameR_iff (a b : List RecD) : sameL qR a b = true ↔ a = b :=
  ⟨sameL_eq qR (fun x y h => (qR_iff x y).1 h), fun h => by rw [h]; exact sameL_refl qR (fun x _ => (qR_iff x x).2 rfl)⟩
theorem shardOk_right {x : ShardD} (h : okShard x) : iShardOk x.1 x.2.1 x.2.2.1 x.2.2.2.1 x.2.2.2.2 = true ↔ RightS x := by
  obtain ⟨h1, h3, h4⟩ := h
  obtain ⟨i1, i2⟩ := iReplay_spec x.2.1 h1.1 (okRecS_ops h1)
  obtain ⟨r1, r2, r3⟩ := repOut_ok h1
  have hl1 := h1.1
  have hl4 := h4.1
  obtain ⟨b1, b2⟩ := equalPairs_spec (repOut x.2.1).1 x.2.2.2.1 (by omega)
  obtain ⟨d1, d2⟩ := equalRecs_spec (repOut x.2.1).2.1 x.2.2.2.2 (by omega) r3
  have w1 := wrap64 (n := ((x.2.1.length : Nat) : Int) + ((x.2.2.2.2.length : Nat) : Int)) (by omega) (by omega)
  have n1 : iisId x.1 = sl1In x.1 0 7 := rfl
  have n2 : iinRange x.2.2.1 0 ((x.2.1.length : Nat) : Int) = sl1In x.2.2.1 0 ((x.2.1.length : Nat) : Int) := rfl
  simp only [iShardOk, i2, b2, d2, w1, n1, n2, in_iff, RightS]
  by_cases g1 : 0 ≤ x.1 ∧ x.1 ≤ 7
  · by_cases g2 : 0 ≤ x.2.2.1 ∧ x.2.2.1 ≤ ((x.2.1.length : Nat) : Int)
    · by_cases g3 : ((x.2.1.length : Nat) : Int) + ((x.2.2.2.2.length : Nat) : Int) > 300
      · rw [decide_eq_true g1, decide_eq_true g2, decide_eq_true g3]
        exact ⟨fun h => absurd h (by simp), fun h => absurd h.2.2.1 (by omega)⟩
      · rw [decide_eq_true g1, decide_eq_true g2, decide_eq_false g3]
        simp only [Bool.not_true, cond_false, repOut]
        cases hp : repL x.2.1 x.2.1.length with
        | none => exact ⟨fun h => absurd h (by simp), fun h => absurd h.2.2.2 (by simp)⟩
        | some s =>
          simp only [cond_true]
          cases hP : sameL qP s.1 x.2.2.2.1 with
          | false =>
            refine ⟨fun h => absurd h (by simp), fun h => ?_⟩
            have e := Option.some.inj h.2.2.2
            rw [e, (sameP_iff _ _).2 rfl] at hP; cases hP
          | true =>
            simp only [cond_true]
            rw [sameR_iff]
            have e1 := (sameP_iff _ _).1 hP
            exact ⟨fun h => ⟨g1, g2, by omega, by rw [show s = (s.1, s.2) from rfl, e1, h]⟩, fun h => by rw [Option.some.inj h.2.2.2]⟩
    · rw [decide_eq_true g1, decide_eq_false g2]
      exact ⟨fun h => absurd h (by simp), fun h => absurd h.2.1 g2⟩
  · rw [decide_eq_false g1]
    exact ⟨fun h => absurd h (by simp), fun h => absurd h.1 g1⟩
noncomputable def bigOpS (l : LIBBe) : Prop := bigOps l = true
noncomputable def bigRec (x : RecD) : Prop := bigOpS x.2.2
noncomputable def bigRecS (l : List RecD) : Prop := l.length ≤ 9223372036854775807 ∧ ∀ x ∈ l, bigRec x
noncomputable def bigPairS (l : List PairD) : Prop := l.length ≤ 9223372036854775807 ∧ ∀ p ∈ l, bigS p.1 = true ∧ bigS p.2 = true
noncomputable def bigShard (x : ShardD) : Prop := bigRecS x.2.1 ∧ bigPairS x.2.2.2.1 ∧ bigRecS x.2.2.2.2
theorem itX_sz {V A α : Type} {ss : V → V ⊕ A} {fa : A} (pk : Int → Nat → V) (l : List α) (d : α) (sz : α → Int → Int) (Q : α → Prop) (bad : A) (good : Int → A) (M : Int) (hn : l.length < 4611686018427387904) {b : Int} (h0 : 0 ≤ b) (h1 : b ≤ M)
    (hstep : ∀ i c, i < l.length → 0 ≤ c → c ≤ M → ss (pk c i) = cond (decide (sz (l.getD i d) c < 0)) (.inr bad) (.inl (pk (sz (l.getD i d) c) (i + 1))))
    (hQ : ∀ x ∈ l, ∀ c, 0 ≤ c → c ≤ M → 0 ≤ sz x c → sz x c ≤ c ∧ Q x) (hlast : ∀ c, ss (pk c l.length) = .inr (good c)) :
    itX ss fa (pk b 0) = bad ∨ ∃ c, itX ss fa (pk b 0) = good c ∧ 0 ≤ c ∧ c ≤ b ∧ ∀ x ∈ l, Q x := by
  rw [itX_eq]
  have key : ∀ k N i c, i + k = l.length → k < N → 0 ≤ c → c ≤ b → (∀ x ∈ l.take i, Q x) → itN ss fa N (pk c i) = bad ∨ ∃ c', itN ss fa N (pk c i) = good c' ∧ 0 ≤ c' ∧ c' ≤ b ∧ ∀ x ∈ l, Q x := by
    intro k
    induction k with
    | zero =>
      intro N i c hi hN c0 c1 hq
      obtain ⟨N, rfl⟩ : ∃ M, N = M + 1 := ⟨N - 1, by omega⟩
      obtain rfl : i = l.length := by omega
      rw [itN_one, hlast c]
      rw [List.take_length] at hq
      exact .inr ⟨c, rfl, c0, c1, hq⟩
    | succ k ih =>
      intro N i c hi hN c0 c1 hq
      obtain ⟨N, rfl⟩ : ∃ M, N = M + 1 := ⟨N - 1, by omega⟩
      have hlt : i < l.length := by omega
      rw [itN_one, hstep i c hlt c0 (by omega)]
      by_cases hneg : sz (l.getD i d) c < 0
      · rw [decide_eq_true hneg]; exact .inl rfl
      · rw [decide_eq_false hneg]
        obtain ⟨q1, q2⟩ := hQ _ (getD_mem hlt d) c c0 (by omega) (by omega)
        refine ih N (i + 1) _ (by omega) (by omega) (by omega) (by omega) (fun x hx => ?_)
        rw [take_succ_getD hlt d] at hx
        rcases List.mem_append.1 hx with hx | hx
        · exact hq x hx
        · simp only [List.mem_singleton] at hx; rw [hx]; exact q2
  exact key l.length _ 0 b (by omega) hn h0 (Int.le_refl _) (by simp)
theorem szOp_spec (k : Int) (s v : ByteArray) (b : Int) (h0 : 0 ≤ b) (h1 : b ≤ 1048576) (hs : bigS s = true) (hv : bigS v = true) (h : 0 ≤ lszOp k s v b) : lszOp k s v b ≤ b ∧ okS s = true ∧ okS v = true := by
  simp only [bigS, decide_eq_true_eq] at hs hv
  have e1 := wrap64 (n := b - ((s.size : Nat) : Int)) (by omega) (by omega)
  simp only [lszOp, e1] at h ⊢
  cases hd : decide (b - ((s.size : Nat) : Int) < 0) with
  | true => rw [hd] at h; simp at h
  | false =>
    rw [hd] at h
    have := of_decide_eq_false hd
    have e2 := wrap64 (n := b - ((s.size : Nat) : Int) - ((v.size : Nat) : Int)) (by omega) (by omega)
    simp only [cond_false, e2] at h ⊢
    cases hd2 : decide (b - ((s.size : Nat) : Int) - ((v.size : Nat) : Int) < 0) with
    | true => rw [hd2] at h; simp at h
    | false =>
      have := of_decide_eq_false hd2
      simp only [cond_false, okS, decide_eq_true_eq]
      omega
theorem szOpS_spec (l : LIBBe) (b : Int) (h0 : 0 ≤ b) (h1 : b ≤ 1048576) (hb : bigOps l = true) (h : 0 ≤ lszOpS l b) : lszOpS l b ≤ b ∧ okOps l = true := by
  have hl : l.length ≤ 9223372036854775807 := by simp only [bigOps, Bool.and_eq_true, decide_eq_true_eq] at hb; exact hb.1
  have e1 := wrap64 (n := b - ((l.length : Nat) : Int)) (by omega) (by omega)
  simp only [lszOpS, e1, Int.toNat_zero, Nat.sub_zero] at h ⊢
  cases hd : decide (b - ((l.length : Nat) : Int) < 0) with
  | true => rw [hd] at h; simp at h
  | false =>
    rw [hd] at h
    have := of_decide_eq_false hd
    simp only [cond_false] at h ⊢
    cases hi : isInl (szN (f_lszOpS_0 l) l.length 0 (b - ((l.length : Nat) : Int))) with
    | false => rw [hi] at h; simp at h
    | true =>
      obtain ⟨r1, r2, r3⟩ := szN_all (M := 1048576) (Q := fun i => okS (l.getD i dOp).2.1 = true ∧ okS (l.getD i dOp).2.2 = true) l.length 0 (b - ((l.length : Nat) : Int)) (fun j b' _ hj q0 q1 hf => by
        obtain ⟨p1, p2⟩ := bigOps_at hb j (by omega)
        obtain ⟨s1, s2, s3⟩ := szOp_spec _ _ _ b' q0 q1 p1 p2 hf
        exact ⟨⟨s2, s3⟩, s1⟩) (by omega) (by omega) hi
      simp only [cond_true]
      exact ⟨by omega, okOps_of (by omega) (fun i hi => r1 i (Nat.zero_le _) (by omega))⟩
theorem szOpSI {l : LIBBe} {b : Int} (hb : bigOpS l) (h0 : 0 ≤ b) (h1 : b ≤ 1048576) : q_lszOpS l b = true ∧ (0 ≤ lszOpS l b → lszOpS l b ≤ b ∧ okOpS l) := ⟨decide_eq_true ⟨h0, h1, bigOps_len hb⟩, fun h => szOpS_spec l b h0 h1 hb h⟩
theorem szRec_el {x : RecD} {b : Int} (hx : bigRec x) (h0 : 0 ≤ b) (h1 : b ≤ 1048576) : q_lszRec x.1 x.2.1 x.2.2 b = true ∧ (0 ≤ lszRec x.1 x.2.1 x.2.2 b → lszRec x.1 x.2.1 x.2.2 b ≤ b ∧ okRec x) := by
  obtain ⟨a1, a2⟩ := szOpSI hx h0 h1
  refine ⟨a1, fun h => ?_⟩
  simp only [lszRec] at h ⊢
  by_cases hd : lszOpS x.2.2 b < 0
  · rw [decide_eq_true hd] at h; simp at h
  · rw [decide_eq_false hd]; exact a2 (by omega)
theorem szRecSI {l : List RecD} {b : Int} (hb : bigRecS l) (h0 : 0 ≤ b) (h1 : b ≤ 1048576) : q_lszRecS l b = true ∧ (0 ≤ lszRecS l b → lszRecS l b ≤ b ∧ okRecS l) := by
  obtain ⟨h2, h3⟩ := hb
  have hdj : (((0 : Int), ((0 : Int), ([] : LIBBe))) : RecD) = dRec := rfl
  have e1 := wrap64 (n := b - ((l.length : Nat) : Int)) (by omega) (by omega)
  simp only [q_lszRecS, lszRecS, e1]
  by_cases hd : b - ((l.length : Nat) : Int) < 0
  · rw [decide_eq_true hd]; simp
  rw [decide_eq_false hd]
  simp only [cond_false]
  have key : it_lszRecS_0 l (b - ((l.length : Nat) : Int)) 0 = (0, -1, 0) ∨ ∃ c, it_lszRecS_0 l (b - ((l.length : Nat) : Int)) 0 = (1, 0, c) ∧ 0 ≤ c ∧ c ≤ b - ((l.length : Nat) : Int) ∧ ∀ x ∈ l, okRec x := by
    refine itX_sz (fun c i => (l, c, (i : Int))) l dRec (fun x c => lszRec x.1 x.2.1 x.2.2 c) okRec (0, -1, 0) (fun c => (1, 0, c)) b (by omega) (by omega) (by omega) (fun i c hi c0 c1 => ?_) (fun x hx c c0 c1 h => (szRec_el (h3 x hx) c0 (by omega)).2 h) (fun c => ?_)
    · have q1 := (szRec_el (h3 _ (getD_mem hi dRec)) c0 (by omega)).1
      have e1 : decide ((i : Int) < ((l.length : Nat) : Int)) = true := decide_eq_true (by omega)
      have e2 : decide (0 ≤ (i : Int) ∧ (i : Int) < ((l.length : Nat) : Int)) = true := decide_eq_true (by omega)
      simp only [ss_lszRecS_0, hdj, e1, e2, cond_true, Int.toNat_natCast, q1, wrapU i (by omega)]
    · have e1 : decide ((l.length : Int) < ((l.length : Nat) : Int)) = false := decide_eq_false (by omega)
      simp only [ss_lszRecS_0, e1, cond_false]
  rcases key with h | ⟨c, h, c0, c1, hj⟩
  · rw [h]; exact ⟨rfl, fun h => by simp at h⟩
  · rw [h]; exact ⟨rfl, fun _ => ⟨by show c ≤ b; omega, by omega, hj⟩⟩
noncomputable def dPair : PairD := (bE, bE)
theorem szPair_spec (s v : ByteArray) (b : Int) (h0 : 0 ≤ b) (h1 : b ≤ 1048576) (hs : bigS s = true) (hv : bigS v = true) (h : 0 ≤ lszPair s v b) : lszPair s v b ≤ b ∧ okS s = true ∧ okS v = true := by
  simp only [bigS, decide_eq_true_eq] at hs hv
  have e1 := wrap64 (n := b - ((s.size : Nat) : Int)) (by omega) (by omega)
  simp only [lszPair, e1] at h ⊢
  cases hd : decide (b - ((s.size : Nat) : Int) < 0) with
  | true => rw [hd] at h; simp at h
  | false =>
    rw [hd] at h
    have := of_decide_eq_false hd
    have e2 := wrap64 (n := b - ((s.size : Nat) : Int) - ((v.size : Nat) : Int)) (by omega) (by omega)
    simp only [cond_false, e2] at h ⊢
    cases hd2 : decide (b - ((s.size : Nat) : Int) - ((v.size : Nat) : Int) < 0) with
    | true => rw [hd2] at h; simp at h
    | false =>
      have := of_decide_eq_false hd2
      simp only [cond_false, okS, decide_eq_true_eq]
      omega
theorem szPairSI {l : List PairD} {b : Int} (hb : bigPairS l) (h0 : 0 ≤ b) (h1 : b ≤ 1048576) : q_lszPairS l b = true ∧ (0 ≤ lszPairS l b → lszPairS l b ≤ b ∧ okPairS l) := by
  obtain ⟨hl, hp⟩ := hb
  refine ⟨decide_eq_true ⟨h0, h1, hl⟩, fun h => ?_⟩
  have e1 := wrap64 (n := b - ((l.length : Nat) : Int)) (by omega) (by omega)
  simp only [lszPairS, e1, Int.toNat_zero, Nat.sub_zero] at h ⊢
  cases hd : decide (b - ((l.length : Nat) : Int) < 0) with
  | true => rw [hd] at h; simp at h
  | false =>
    rw [hd] at h
    have := of_decide_eq_false hd
    simp only [cond_false] at h ⊢
    cases hi : isInl (szN (f_lszPairS_0 l) l.length 0 (b - ((l.length : Nat) : Int))) with
    | false => rw [hi] at h; simp at h
    | true =>
      obtain ⟨r1, r2, r3⟩ := szN_all (M := 1048576) (Q := fun i => okS (l.getD i dPair).1 = true ∧ okS (l.getD i dPair).2 = true) l.length 0 (b - ((l.length : Nat) : Int)) (fun j b' _ hj q0 q1 hf => by
        obtain ⟨p1, p2⟩ := hp _ (getD_mem (show j < l.length by omega) dPair)
        obtain ⟨s1, s2, s3⟩ := szPair_spec _ _ b' q0 q1 p1 p2 hf
        exact ⟨⟨s2, s3⟩, s1⟩) (by omega) (by omega) hi
      simp only [cond_true]
      refine ⟨by omega, by omega, fun p hm => ?_⟩
      obtain ⟨i, hi, e⟩ := List.getElem_of_mem hm
      have := r1 i (Nat.zero_le _) (by omega)
      rw [List.getD_eq_getElem?_getD, List.getElem?_eq_getElem hi, Option.getD_some, e] at this
      exact this
theorem szShard_el {x : ShardD} {b : Int} (hx : bigShard x) (h0 : 0 ≤ b) (h1 : b ≤ 1048576) : q_lszShard x.1 x.2.1 x.2.2.1 x.2.2.2.1 x.2.2.2.2 b = true ∧ (0 ≤ lszShard x.1 x.2.1 x.2.2.1 x.2.2.2.1 x.2.2.2.2 b → lszShard x.1 x.2.1 x.2.2.1 x.2.2.2.1 x.2.2.2.2 b ≤ b ∧ okShard x) := by
  simp only [q_lszShard, lszShard]
  obtain ⟨q0, a0⟩ := szRecSI (b := b) (hx.1) (by omega) (by omega)
  generalize hc0 : lszRecS x.2.1 b = c0 at *
  by_cases hd0 : c0 < 0
  · simp only [q0, decide_eq_true hd0, cond_true, Bool.true_and]
    exact ⟨trivial, fun h => by simp at h⟩
  obtain ⟨m0, k0⟩ := a0 (by omega)
  simp only [q0, decide_eq_false hd0, cond_false, Bool.true_and]
  obtain ⟨q1, a1⟩ := szPairSI (b := c0) (hx.2.1) (by omega) (by omega)
  generalize hc1 : lszPairS x.2.2.2.1 c0 = c1 at *
  by_cases hd1 : c1 < 0
  · simp only [q1, decide_eq_true hd1, cond_true, Bool.true_and]
    exact ⟨trivial, fun h => by simp at h⟩
  obtain ⟨m1, k1⟩ := a1 (by omega)
  simp only [q1, decide_eq_false hd1, cond_false, Bool.true_and]
  obtain ⟨q2, a2⟩ := szRecSI (b := c1) (hx.2.2) (by omega) (by omega)
  generalize hc2 : lszRecS x.2.2.2.2 c1 = c2 at *
  by_cases hd2 : c2 < 0
  · rw [decide_eq_true hd2]
    exact ⟨q2, fun h => by simp at h⟩
  obtain ⟨m2, k2⟩ := a2 (by omega)
  rw [decide_eq_false hd2]
  exact ⟨q2, fun _ => ⟨by simp only [cond_false]; omega, k0, k1, k2⟩⟩
theorem itX_map {V A α β : Type} {ss : V → V ⊕ A} {fa : A} (pk : Nat → List β → V) (l : List α) (d : α) (e : β) (f : α → β) (last : List β → A) (hn : l.length < 4611686018427387904)
    (h : ∀ i r, i < l.length → r.length = l.length → ss (pk i r) = .inl (pk (i + 1) (r.set i (f (l.getD i d))))) (hl : ∀ r, r.length = l.length → ss (pk l.length r) = .inr (last r)) : itX ss fa (pk 0 (List.replicate l.length e)) = last (l.map f) := by
  rw [itX_eq]
  have key : ∀ k N i r, i + k = l.length → k < N → r.length = l.length → r.take i = (l.map f).take i → itN ss fa N (pk i r) = last (l.map f) := by
    intro k
    induction k with
    | zero =>
      intro N i r hi hN hr ht
      obtain ⟨M, rfl⟩ : ∃ M, N = M + 1 := ⟨N - 1, by omega⟩
      obtain rfl : i = l.length := by omega
      rw [itN_one, hl r hr]
      have e1 : r.take l.length = r := List.take_of_length_le (by omega)
      have e2 : (l.map f).take l.length = l.map f := List.take_of_length_le (by simp)
      rw [e1, e2] at ht
      rw [ht]
    | succ k ih =>
      intro N i r hi hN hr ht
      obtain ⟨M, rfl⟩ : ∃ M, N = M + 1 := ⟨N - 1, by omega⟩
      rw [itN_one, h i r (by omega) hr]
      refine ih M (i + 1) _ (by omega) (by omega) (by rw [List.length_set]; exact hr) ?_
      have hlt : i < l.length := by omega
      rw [List.take_add_one, List.take_add_one, List.take_set_of_le (Nat.le_refl _), ht]
      congr 1
      simp [List.getElem?_set, hr, hlt, List.getD_eq_getElem?_getD]
  exact key l.length _ 0 _ (by omega) hn (by simp) (by simp)
theorem toOpS_same (l : LIBBe) : ltoOpS l = l := by
  have e := mapN (fun o : Int × ByteArray × ByteArray => (ltoOp o.1 o.2.1 o.2.2)) dOp l l.length 0 (List.replicate l.length dOp) (by simp) (by simp)
  simp only [List.take_zero, List.nil_append, List.drop_zero] at e
  have e2 : l.map (fun o : Int × ByteArray × ByteArray => (ltoOp o.1 o.2.1 o.2.2)) = l := by
    rw [show (fun o : Int × ByteArray × ByteArray => (ltoOp o.1 o.2.1 o.2.2)) = id from funext fun _ => rfl, List.map_id]
  rw [e2] at e
  exact e
theorem toOpSI {l : LIBBe} (h : okOpS l) : q_ltoOpS l = true ∧ ltoOpS l = l := ⟨okOps_okL h, toOpS_same l⟩
theorem toRecSI {l : List RecD} (h : okRecS l) : q_ltoRecS l = true ∧ ltoRecS l = l := by
  obtain ⟨hl, h3⟩ := h
  have hdj : (((0 : Int), ((0 : Int), ([] : LIBBe))) : RecD) = dRec := rfl
  have key : it_ltoRecS_0 l 0 (List.replicate l.length dRec) = (0, l.map fun x => x) := by
    refine itX_map (fun i r => (l, (i : Int), r)) l dRec dRec (fun x => x) (fun r => (0, r)) (by omega) (fun i r hi hr => ?_) (fun r hr => ?_)
    · have e1 : decide ((i : Int) < ((l.length : Nat) : Int)) = true := decide_eq_true (by omega)
      have e2 : decide (0 ≤ (i : Int) ∧ (i : Int) < ((l.length : Nat) : Int)) = true := decide_eq_true (by omega)
      have e3 : decide (0 ≤ (i : Int) ∧ (i : Int) < ((r.length : Nat) : Int)) = true := decide_eq_true (by omega)
      have ho := h3 _ (getD_mem hi dRec)
      have o2 := ho
      obtain ⟨qE2, toE2⟩ := toOpSI o2
      have q1 : q_ltoRec (l.getD i dRec).1 (l.getD i dRec).2.1 (l.getD i dRec).2.2 = true := by
        exact qE2
      simp only [ss_ltoRecS_0, hdj, e1, e2, e3, cond_true, Int.toNat_natCast, q1, wrapU i (by omega), ltoRec, toE2]
    · have e1 : decide ((l.length : Int) < ((l.length : Nat) : Int)) = false := decide_eq_false (by omega)
      simp only [ss_ltoRecS_0, e1, cond_false]
  rw [List.map_id'] at key
  simp only [q_ltoRecS, ltoRecS, hdj, Int.toNat_natCast, key]
  refine ⟨?_, trivial⟩
  rw [Bool.and_eq_true]
  exact ⟨decide_eq_true ⟨by omega, trivial, by simp only [MAXB]; omega, by omega⟩, rfl⟩
theorem toPairSI {l : List PairD} (h : okPairS l) : q_ltoPairS l = true ∧ ltoPairS l = l := by
  refine ⟨decide_eq_true h.1, ?_⟩
  have e := mapN (fun o : PairD => (ltoPair o.1 o.2)) dPair l l.length 0 (List.replicate l.length dPair) (by simp) (by simp)
  simp only [List.take_zero, List.nil_append, List.drop_zero] at e
  have e2 : l.map (fun o : PairD => (ltoPair o.1 o.2)) = l := by
    rw [show (fun o : PairD => (ltoPair o.1 o.2)) = id from funext fun _ => rfl, List.map_id]
  rw [e2] at e
  exact e
theorem toShard_el {x : ShardD} (h : okShard x) : q_ltoShard x.1 x.2.1 x.2.2.1 x.2.2.2.1 x.2.2.2.2 = true ∧ ltoShard x.1 x.2.1 x.2.2.1 x.2.2.2.1 x.2.2.2.2 = x := by
  obtain ⟨o1, o3, o4⟩ := h
  obtain ⟨qE1, toE1⟩ := toRecSI o1
  obtain ⟨qE3, toE3⟩ := toPairSI o3
  obtain ⟨qE4, toE4⟩ := toRecSI o4
  simp only [q_ltoShard, ltoShard, qE1, qE3, qE4, toE1, toE3, toE4, Bool.and_self]
  exact ⟨trivial, trivial⟩
theorem eqOp_same (k : Int) (s v : ByteArray) : leqOp k s v k s v = true := by simp [leqOp]
theorem eqOpS_same (l : LIBBe) : leqOpS l l = true := by
  have e : allF (f_leqOpS_0 l l) (l.length - (0 : Int).toNat) (0 : Int).toNat = true := allF_same _ _ (fun j _ _ => by simp [f_leqOpS_0, eqOp_same])
  simp only [leqOpS, e, cond_true]
  simp
theorem eqOpSI {l : LIBBe} (h : okOpS l) : q_leqOpS l l = true ∧ leqOpS l l = true := ⟨okOps_okL h, eqOpS_same l⟩
theorem eqRecSI {l : List RecD} (h : okRecS l) : q_leqRecS l l = true ∧ leqRecS l l = true := by
  obtain ⟨hl, h3⟩ := h
  have hdj : (((0 : Int), ((0 : Int), ([] : LIBBe))) : RecD) = dRec := rfl
  have e0 : ∀ x : Int, (x != x) = false := fun x => by simp
  have e9 : ∀ x : Bool, (x == x) = true := fun x => by simp
  have key : it_leqRecS_0 l l 0 = scanA (fun _ => none) (1, false) l.length 0 := by
    refine itX_scan (fun i => (l, l, (i : Int))) l.length _ _ (by omega) (fun i hi => ?_) ?_
    · have e1 : decide ((i : Int) < ((l.length : Nat) : Int)) = true := decide_eq_true (by omega)
      have e2 : decide (0 ≤ (i : Int) ∧ (i : Int) < ((l.length : Nat) : Int)) = true := decide_eq_true (by omega)
      have ho := h3 _ (getD_mem hi dRec)
      have o2 := ho
      obtain ⟨qE2, toE2⟩ := eqOpSI o2
      have q1 : q_leqRec (l.getD i dRec).1 (l.getD i dRec).2.1 (l.getD i dRec).2.2 (l.getD i dRec).1 (l.getD i dRec).2.1 (l.getD i dRec).2.2 = true := by
        first | exact qE2 | (simp only [q_leqRec, e0, cond_false]; exact qE2)
      have q2 : leqRec (l.getD i dRec).1 (l.getD i dRec).2.1 (l.getD i dRec).2.2 (l.getD i dRec).1 (l.getD i dRec).2.1 (l.getD i dRec).2.2 = true := by
        simp only [leqRec, e0, e9, toE2, cond_false, Bool.not_true]
      simp only [ss_leqRecS_0, hdj, e1, e2, cond_true, cond_false, Bool.not_true, Int.toNat_natCast, q1, q2, wrapU i (by omega)]
    · have e1 : decide ((l.length : Int) < ((l.length : Nat) : Int)) = false := decide_eq_false (by omega)
      simp only [ss_leqRecS_0, e1, cond_false]
  have k2 : scanA (fun _ => none) ((1, false) : A_leqRecS_0) l.length 0 = (1, false) := by
    rcases scanA_cases (fun _ => none) ((1, false) : A_leqRecS_0) l.length 0 with ⟨j, a, _, _, h3, _⟩ | ⟨_, h⟩
    · cases h3
    · exact h
  rw [k2] at key
  simp only [q_leqRecS, leqRecS, key, e0, cond_false]
  exact ⟨rfl, rfl⟩
theorem eqPairSI {l : List PairD} (h : okPairS l) : q_leqPairS l l = true ∧ leqPairS l l = true := by
  refine ⟨decide_eq_true h.1, ?_⟩
  have e : allF (f_leqPairS_0 l l) (l.length - (0 : Int).toNat) (0 : Int).toNat = true := allF_same _ _ (fun j _ _ => by simp [f_leqPairS_0, leqPair])
  simp only [leqPairS, e, cond_true]
  simp
theorem eqShard_el {x : ShardD} (h : okShard x) : q_leqShard x.1 x.2.1 x.2.2.1 x.2.2.2.1 x.2.2.2.2 x.1 x.2.1 x.2.2.1 x.2.2.2.1 x.2.2.2.2 = true ∧ leqShard x.1 x.2.1 x.2.2.1 x.2.2.2.1 x.2.2.2.2 x.1 x.2.1 x.2.2.1 x.2.2.2.1 x.2.2.2.2 = true := by
  obtain ⟨o1, o3, o4⟩ := h
  obtain ⟨qE1, toE1⟩ := eqRecSI o1
  obtain ⟨qE3, toE3⟩ := eqPairSI o3
  obtain ⟨qE4, toE4⟩ := eqRecSI o4
  have e0 : ∀ x : Int, (x != x) = false := fun x => by simp
  simp only [q_leqShard, leqShard, e0, qE1, toE1, qE3, toE3, qE4, toE4, cond_false, Bool.not_true, Bool.and_self]
  exact ⟨trivial, trivial⟩
theorem bigOpS_of {l : LIBBe} (h : bigT t_spiptt l = true) : bigOpS l := bigOps_of h
theorem bigRecS_of {l : List RecD} (h : bigT t_spipispiptt l = true) : bigRecS l := by
  have h : (decide (l.length ≤ maxLen) && l.all fun x => ((Lit.int .i64 x.1).wf && ((Lit.int .i64 x.2.1).wf && bigT t_spiptt x.2.2))) = true := h
  have hm : maxLen = 9223372036854775807 := by decide
  rw [hm] at h
  simp only [Bool.and_eq_true, decide_eq_true_eq, List.all_eq_true] at h
  exact ⟨h.1, fun x hx => bigOpS_of (h.2 x hx).2.2⟩
theorem bigPairS_of {l : List PairD} (h : bigT t_sptt l = true) : bigPairS l := by
  have h : (decide (l.length ≤ maxLen) && l.all fun o => (decide (o.1.size ≤ maxLen) && decide (o.2.size ≤ maxLen))) = true := h
  have hm : maxLen = 9223372036854775807 := by decide
  rw [hm] at h
  simp only [Bool.and_eq_true, decide_eq_true_eq, List.all_eq_true] at h
  simp only [bigPairS, bigS, decide_eq_true_eq]
  exact ⟨h.1, fun o ho => h.2 o ho⟩
theorem bigShard_of {x : ShardD} (h : bigT t_pipspipispipttpipspttspipispiptt x = true) : bigShard x := by
  have h : ((Lit.int .i64 x.1).wf && (bigT t_spipispiptt x.2.1 && ((Lit.int .i64 x.2.2.1).wf && (bigT t_sptt x.2.2.2.1 && bigT t_spipispiptt x.2.2.2.2)))) = true := h
  simp only [Bool.and_eq_true] at h
  exact ⟨bigRecS_of h.2.1, bigPairS_of h.2.2.2.1, bigRecS_of h.2.2.2.2⟩
theorem outcome_same {x : ShardD} (h : okShard x) (t : Int) : q_sOutcome x.1 x.2.1 x.2.2.1 x.2.2.2.1 x.2.2.2.2 t = true ∧ q_iOutcome x.1 x.2.1 x.2.2.1 x.2.2.2.1 x.2.2.2.2 t = true ∧ iOutcome x.1 x.2.1 x.2.2.1 x.2.2.2.1 x.2.2.2.2 t = sOutcome x.1 x.2.1 x.2.2.1 x.2.2.2.1 x.2.2.2.2 t := by
  obtain ⟨c1, c2, c3⟩ := shardOk_same h
  simp only [q_sOutcome, q_iOutcome, sOutcome, iOutcome, c1, c2, c3, Bool.true_and]
  cases hr : iShardOk x.1 x.2.1 x.2.2.1 x.2.2.2.1 x.2.2.2.2 with
  | false => exact ⟨rfl, rfl, rfl⟩
  | true =>
    obtain ⟨⟨s1, s2⟩, i1, i2⟩ := out_same h ((shardOk_right h).1 hr) t
    simp only [s1, s2, i1, i2, Bool.not_true, cond_false]
    exact ⟨trivial, trivial, trivial⟩
theorem outcome_all (x : ShardD) (t : Int) (hb : bigShard x) : q_lFnExactOutcome x.1 x.2.1 x.2.2.1 x.2.2.2.1 x.2.2.2.2 t = true ∧ lFnExactOutcome x.1 x.2.1 x.2.2.1 x.2.2.2.1 x.2.2.2.2 t = true := by
  obtain ⟨z1, z2⟩ := szShard_el hb (b := 1048576) (by omega) (by omega)
  by_cases hd : lszShard x.1 x.2.1 x.2.2.1 x.2.2.2.1 x.2.2.2.2 1048576 < 0
  · simp only [q_lFnExactOutcome, lFnExactOutcome, z1, decide_eq_true hd, cond_true]
    exact ⟨rfl, trivial⟩
  · obtain ⟨_, ho⟩ := z2 (by omega)
    obtain ⟨t1, t2⟩ := toShard_el ho
    obtain ⟨e1, e2⟩ := eqShard_el ho
    obtain ⟨c1, c2, c3⟩ := outcome_same ho t
    have e5 : ∀ x : Int, (x != x) = false := fun x => by simp
    simp only [q_lFnExactOutcome, lFnExactOutcome, k1_lFnExactOutcome, k2_lFnExactOutcome, k3_lFnExactOutcome, z1, decide_eq_false hd, t1, t2, c1, c2, c3, e1, e2, e5, cond_false, Bool.not_true, Bool.and_self]
    exact ⟨trivial, trivial⟩
theorem pre_of_lFnExactOutcome (a0 : Int) (a1 : List RecD) (a2 : Int) (a3 : List PairD) (a4 : List RecD) (a5 : Int) (h : bigT t_pipspipispipttpipspttspipispiptt (a0, (a1, (a2, (a3, a4)))) = true) (h5 : bigT (.int .i64) a5 = true) : pre_lFnExactOutcome ((a0, a1, a2, a3, a4, ()), a5, ()) = true := (outcome_all (a0, a1, a2, a3, a4) a5 (bigShard_of h)).1
theorem exact_lFnExactOutcome (a0 : Int) (a1 : List RecD) (a2 : Int) (a3 : List PairD) (a4 : List RecD) (a5 : Int) (h : bigT t_pipspipispipttpipspttspipispiptt (a0, (a1, (a2, (a3, a4)))) = true) (h5 : bigT (.int .i64) a5 = true) : lFnExactOutcome a0 a1 a2 a3 a4 a5 = true := (outcome_all (a0, a1, a2, a3, a4) a5 (bigShard_of h)).2

end Go.Proofs.Ytccelbeahdcooaa.Eng
