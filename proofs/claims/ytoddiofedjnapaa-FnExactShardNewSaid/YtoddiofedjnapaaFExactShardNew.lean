/- What the functions that FnExactShardNew reaches compute, and that it answers true. -/
import Derived.Test.YtoddiofedjnapaaT
import Derived.Test.YtoddiofedjnapaaRows
namespace Go.Proofs.Ytoddiofedjnapaa.Eng
open Go Go.RowKit
set_option linter.unusedSimpArgs false
set_option linter.unusedVariables false
set_option maxRecDepth 10000
def S0 : Tab := fun _ => none
def QF0 : FuncId → Bool := fun _ => false
theorem G0 : Good Try.prog tt S0 QF0 := Good.start tt_ok (by kernel_rfl)
/-! Plain laws: order of bytes, keys, ops. -/
theorem bytesLess_irrefl : ∀ a : List UInt8, Op.bytesLess a a = false := by
  intro a
  induction a with
  | nil => rfl
  | cons x a ih => simp only [Op.bytesLess, ih, Bool.and_false, Bool.or_false, decide_eq_false_iff_not]; exact UInt8.lt_irrefl x
theorem bytesLess_ge : ∀ a b : List UInt8, (!(Op.bytesLess a b)) = (Op.bytesLess b a || b == a) := by
  intro a
  induction a with
  | nil => intro b; cases b <;> simp [Op.bytesLess]
  | cons x a ih =>
    intro b
    cases b with
    | nil => simp [Op.bytesLess]
    | cons y b =>
      simp only [Op.bytesLess]
      by_cases h1 : x < y
      · have h2 : ¬ y < x := fun h => UInt8.lt_irrefl _ (UInt8.lt_trans h1 h)
        have h3 : (y == x) = false := by rw [beq_eq_false_iff_ne]; intro h; subst h; exact h2 h1
        have h4 : (y :: b == x :: a) = false := by rw [List.cons_beq_cons, h3, Bool.false_and]
        simp [h1, h2, h3, h4]
      · by_cases h5 : x = y
        · subst h5
          have h6 : (x :: b == x :: a) = (b == a) := by rw [List.cons_beq_cons]; simp
          have := ih b
          simp only [h1, decide_false, Bool.false_or, beq_self_eq_true, Bool.true_and, h6, this]
        · have h7 : y < x := by
            rcases Nat.lt_trichotomy x.toNat y.toNat with h | h | h
            · exact absurd (UInt8.lt_iff_toNat_lt.2 h) h1
            · exact absurd (UInt8.toNat_inj.1 h) h5
            · exact UInt8.lt_iff_toNat_lt.2 h
          have h8 : (x == y) = false := by rw [beq_eq_false_iff_ne]; exact h5
          simp [h1, h7, h8]
theorem allF_congr {p q : Nat → Bool} : ∀ k i, (∀ j, i ≤ j → j < i + k → p j = q j) → allF p k i = allF q k i := by
  intro k
  induction k with
  | zero => intro i h; rfl
  | succ k ih => intro i h; simp only [allF]; rw [h i (Nat.le_refl _) (by omega), ih (i + 1) (fun j h1 h2 => h j (by omega) (by omega))]
theorem allF_same {p : Nat → Bool} (k i : Nat) (h : ∀ j, i ≤ j → j < i + k → p j = true) : allF p k i = true := (allF_true k i).2 h
theorem szN_all {f : Nat → Int → Int} {Q : Nat → Prop} {M : Int} : ∀ (k i : Nat) (b : Int), (∀ j b, i ≤ j → j < i + k → 0 ≤ b → b ≤ M → 0 ≤ f j b → Q j ∧ f j b ≤ b) → 0 ≤ b → b ≤ M → isInl (szN f k i b) = true →
    (∀ j, i ≤ j → j < i + k → Q j) ∧ 0 ≤ getInl (-1) (szN f k i b) ∧ getInl (-1) (szN f k i b) ≤ b := by
  intro k
  induction k with
  | zero => intro i b hf h1 h2 h3; exact ⟨fun j hj hk => by omega, h1, Int.le_refl _⟩
  | succ k ih =>
    intro i b hf h1 h2 h3
    have e : szN f (k + 1) i b = cond (decide (f i b < 0)) (.inr ()) (szN f k (i + 1) (f i b)) := by
      simp only [szN, loopN]
      cases decide (f i b < 0) <;> rfl
    rw [e] at h3 ⊢
    cases hd : decide (f i b < 0) with
    | true => rw [hd] at h3; cases h3
    | false =>
      rw [hd] at h3
      simp only [cond_false] at h3 ⊢
      have h0 : 0 ≤ f i b := by have := of_decide_eq_false hd; omega
      obtain ⟨q1, q2⟩ := hf i b (Nat.le_refl _) (by omega) h1 h2 h0
      obtain ⟨r1, r2, r3⟩ := ih (i + 1) (f i b) (fun j b hj hk => hf j b (by omega) (by omega)) h0 (by omega) h3
      refine ⟨fun j hj hk => ?_, r2, by omega⟩
      by_cases ej : j = i
      · exact ej ▸ q1
      · exact r1 j (by omega) (by omega)
abbrev OpT : Type := Int × ByteArray × ByteArray
def dOp : Int × ByteArray × ByteArray := ((0 : Int), ((⟨#[]⟩ : ByteArray), (⟨#[]⟩ : ByteArray)))
def okOp (o : Int × ByteArray × ByteArray) : Bool := okS o.2.1 && okS o.2.2
def okOps (l : List (Int × ByteArray × ByteArray)) : Bool := okL l && l.all okOp
theorem okOps_at {l : List (Int × ByteArray × ByteArray)} (h : okOps l = true) (i : Nat) (hi : i < l.length) : okS (l.getD i dOp).2.1 = true ∧ okS (l.getD i dOp).2.2 = true := by
  simp only [okOps, Bool.and_eq_true, List.all_eq_true] at h
  have := h.2 (l.getD i dOp) (by simp [List.getD_eq_getElem?_getD, hi])
  simpa [okOp] using this
theorem okOps_len {l : List (Int × ByteArray × ByteArray)} (h : okOps l = true) : l.length ≤ 1048576 := by
  simp only [okOps, Bool.and_eq_true] at h
  exact okL_le h.1
def bigS (s : ByteArray) : Bool := decide (s.size ≤ 9223372036854775807)
def bigOps (l : List (Int × ByteArray × ByteArray)) : Bool := decide (l.length ≤ 9223372036854775807) && l.all (fun o => bigS o.2.1 && bigS o.2.2)
theorem bigOps_at {l : List (Int × ByteArray × ByteArray)} (h : bigOps l = true) (i : Nat) (hi : i < l.length) : bigS (l.getD i dOp).2.1 = true ∧ bigS (l.getD i dOp).2.2 = true := by
  simp only [bigOps, Bool.and_eq_true, List.all_eq_true] at h
  exact h.2 (l.getD i dOp) (by simp [List.getD_eq_getElem?_getD, hi])
theorem okOps_of {l : List (Int × ByteArray × ByteArray)} (h1 : l.length ≤ 1048576) (h2 : ∀ i, i < l.length → okS (l.getD i dOp).2.1 = true ∧ okS (l.getD i dOp).2.2 = true) : okOps l = true := by
  simp only [okOps, okL, Bool.and_eq_true, decide_eq_true_eq, List.all_eq_true]
  refine ⟨h1, fun o ho => ?_⟩
  obtain ⟨i, hi, rfl⟩ := List.getElem_of_mem ho
  have := h2 i hi
  simp only [List.getD_eq_getElem?_getD, List.getElem?_eq_getElem hi, Option.getD_some] at this
  simp [okOp, this.1, this.2]
theorem ba_beq (a b : ByteArray) : (a.toList == b.toList) = decide (a = b) := by
  rw [ByteArray.toList_eq, ByteArray.toList_eq]
  by_cases h : a = b
  · subst h; simp
  · rw [decide_eq_false h, beq_eq_false_iff_ne]
    intro e
    exact h (by cases a; cases b; simp at e; rw [e])
theorem bigOps_len {l : List (Int × ByteArray × ByteArray)} (h : bigOps l = true) : l.length ≤ 9223372036854775807 := by
  simp only [bigOps, Bool.and_eq_true, decide_eq_true_eq] at h; exact h.1
theorem okOps_okL {l : List (Int × ByteArray × ByteArray)} (h : okOps l = true) : okL l = true := by
  simp only [okOps, Bool.and_eq_true] at h; exact h.1
theorem bigOps_of {l : List (Int × ByteArray × ByteArray)} (h : bigT (.sl (.pair (.int .i64) (.pair .str .str))) l = true) : bigOps l = true := by
  have h : (decide (l.length ≤ maxLen) && l.all fun o => (Lit.int .i64 o.1).wf && (decide (o.2.1.size ≤ maxLen) && decide (o.2.2.size ≤ maxLen))) = true := h
  have hm : maxLen = 9223372036854775807 := by decide
  rw [hm] at h
  simp only [Bool.and_eq_true, decide_eq_true_eq, List.all_eq_true] at h
  simp only [bigOps, bigS, Bool.and_eq_true, decide_eq_true_eq, List.all_eq_true]
  exact ⟨h.1, fun o ho => (h.2 o ho).2⟩
theorem bigRec_ops {k t : Int} {l : List (Int × ByteArray × ByteArray)} (h : bigT (.pair (.int .i64) (.pair (.int .i64) (.sl (.pair (.int .i64) (.pair .str .str))))) (k, (t, l)) = true) : bigOps l = true := by
  have hb : ((Lit.int .i64 k).wf && ((Lit.int .i64 t).wf && bigT (.sl (.pair (.int .i64) (.pair .str .str))) l)) = true := h
  rw [Bool.and_eq_true, Bool.and_eq_true] at hb
  exact bigOps_of hb.2.2

/-! 83 loop.example/g00244/spec.l1In -/
abbrev P_sl1In : List PSh := [.t (.int .i64), .t (.int .i64), .t (.int .i64)]
def sl1In (a0 : Int) (a1 : Int) (a2 : Int) : Bool := (cond (decide (a0 ≥ a1)) (decide (a0 ≤ a2)) false)
abbrev e_sl1In (r : Bool) : AV × List AObj := ((.t true .bool r), [])
abbrev g_sl1In : pshsDen P_sl1In → AV × List AObj := fun d => e_sl1In (sl1In d.1 d.2.1 d.2.2.1)
abbrev pre_sl1In : pshsDen P_sl1In → Bool := fun d => true
theorem runA_sl1In (a0 : Int) (a1 : Int) (a2 : Int) : runP true Try.prog tt S0 QF0 (fun _ _ => none) Try.f83 (argsMk P_sl1In (a0, (a1, (a2, ())))) = some (g_sl1In (a0, (a1, (a2, ())))) := by
  refine Eq.trans (b := (cond (decide (a0 ≥ a1)) (some (e_sl1In (decide (a0 ≤ a2)))) (some (e_sl1In false)))) (by kernel_rfl) ?_
  exact (cnd (F := fun r => some (e_sl1In r)) (fun _h => rfl) (fun _h => rfl))
theorem run_sl1In : ∀ d, pre_sl1In d = true → runP true Try.prog tt S0 QF0 (fun _ _ => none) Try.f83 (argsMk P_sl1In d) = some (g_sl1In d) := fun d hp => runA_sl1In d.1 d.2.1 d.2.2.1
theorem c_sl1In : PContract Try.prog 83 (sumOf P_sl1In pre_sl1In g_sl1In) := PContract.of_data true G0 (fn := Try.f83) (by kernel_rfl) (L := fun _ _ => none) (by rw [show loopsIn 0 (bodyOf Try.f83) = [] by kernel_rfl]; simp) P_sl1In pre_sl1In g_sl1In run_sl1In
def S1 : Tab := Tab.add S0 83 (lift (sumOf P_sl1In pre_sl1In g_sl1In))
def QF1 : FuncId → Bool := qadd QF0 83
theorem G1 : Good Try.prog tt S1 QF1 := G0.addQ c_sl1In ⟨Try.f83, by kernel_rfl, by kernel_rfl, by kernel_rfl⟩ (fun _ => rfl)

/-! 25 loop.example/g00244/spec.ShardNew -/
abbrev P_sShardNew : List PSh := [.t (.int .i64)]
def sShardNew (a0 : Int) : Int × (List (Int × Int × List (Int × ByteArray × ByteArray))) × Int × (List (ByteArray × ByteArray)) × List (Int × Int × List (Int × ByteArray × ByteArray)) := (cond (!(sl1In a0 (0 : Int) (7 : Int))) ((0 : Int), [], (0 : Int), [], []) (a0, [], (0 : Int), [], []))
abbrev e_sShardNew (r : Int × (List (Int × Int × List (Int × ByteArray × ByteArray))) × Int × (List (ByteArray × ByteArray)) × List (Int × Int × List (Int × ByteArray × ByteArray))) : AV × List AObj := ((.agg [(.t true (.int .i64) r.1), (.t true (.sl (.pair (.int .i64) (.pair (.int .i64) (.sl (.pair (.int .i64) (.pair .str .str)))))) r.2.1), (.t true (.int .i64) r.2.2.1), (.t true (.sl (.pair .str .str)) r.2.2.2.1), (.t true (.sl (.pair (.int .i64) (.pair (.int .i64) (.sl (.pair (.int .i64) (.pair .str .str)))))) r.2.2.2.2)]), [])
abbrev g_sShardNew : pshsDen P_sShardNew → AV × List AObj := fun d => e_sShardNew (sShardNew d.1)
abbrev pre_sShardNew : pshsDen P_sShardNew → Bool := fun d => true
theorem runA_sShardNew (a0 : Int) : runP true Try.prog tt S1 QF1 (fun _ _ => none) Try.f25 (argsMk P_sShardNew (a0, ())) = some (g_sShardNew (a0, ())) := by
  refine Eq.trans (b := (cond (!(sl1In a0 (0 : Int) (7 : Int))) (some (e_sShardNew ((0 : Int), [], (0 : Int), [], []))) (some (e_sShardNew (a0, [], (0 : Int), [], []))))) (by kernel_rfl) ?_
  exact (cnd (F := fun r => some (e_sShardNew r)) (fun _h => rfl) (fun _h => rfl))
theorem run_sShardNew : ∀ d, pre_sShardNew d = true → runP true Try.prog tt S1 QF1 (fun _ _ => none) Try.f25 (argsMk P_sShardNew d) = some (g_sShardNew d) := fun d hp => runA_sShardNew d.1
theorem c_sShardNew : PContract Try.prog 25 (sumOf P_sShardNew pre_sShardNew g_sShardNew) := PContract.of_data true G1 (fn := Try.f25) (by kernel_rfl) (L := fun _ _ => none) (by rw [show loopsIn 0 (bodyOf Try.f25) = [] by kernel_rfl]; simp) P_sShardNew pre_sShardNew g_sShardNew run_sShardNew
def S2 : Tab := Tab.add S1 25 (lift (sumOf P_sShardNew pre_sShardNew g_sShardNew))
def QF2 : FuncId → Bool := qadd QF1 25
theorem G2 : Good Try.prog tt S2 QF2 := G1.addQ c_sShardNew ⟨Try.f25, by kernel_rfl, by kernel_rfl, by kernel_rfl⟩ (fun _ => rfl)

/-! 89 loop.example/g00244/impl.inRange -/
abbrev P_iinRange : List PSh := [.t (.int .i64), .t (.int .i64), .t (.int .i64)]
def iinRange (a0 : Int) (a1 : Int) (a2 : Int) : Bool := (cond (decide (a0 ≥ a1)) (decide (a0 ≤ a2)) false)
abbrev e_iinRange (r : Bool) : AV × List AObj := ((.t true .bool r), [])
abbrev g_iinRange : pshsDen P_iinRange → AV × List AObj := fun d => e_iinRange (iinRange d.1 d.2.1 d.2.2.1)
abbrev pre_iinRange : pshsDen P_iinRange → Bool := fun d => true
theorem runA_iinRange (a0 : Int) (a1 : Int) (a2 : Int) : runP true Try.prog tt S2 QF2 (fun _ _ => none) Try.f89 (argsMk P_iinRange (a0, (a1, (a2, ())))) = some (g_iinRange (a0, (a1, (a2, ())))) := by
  refine Eq.trans (b := (cond (decide (a0 ≥ a1)) (some (e_iinRange (decide (a0 ≤ a2)))) (some (e_iinRange false)))) (by kernel_rfl) ?_
  exact (cnd (F := fun r => some (e_iinRange r)) (fun _h => rfl) (fun _h => rfl))
theorem run_iinRange : ∀ d, pre_iinRange d = true → runP true Try.prog tt S2 QF2 (fun _ _ => none) Try.f89 (argsMk P_iinRange d) = some (g_iinRange d) := fun d hp => runA_iinRange d.1 d.2.1 d.2.2.1
theorem c_iinRange : PContract Try.prog 89 (sumOf P_iinRange pre_iinRange g_iinRange) := PContract.of_data true G2 (fn := Try.f89) (by kernel_rfl) (L := fun _ _ => none) (by rw [show loopsIn 0 (bodyOf Try.f89) = [] by kernel_rfl]; simp) P_iinRange pre_iinRange g_iinRange run_iinRange
def S3 : Tab := Tab.add S2 89 (lift (sumOf P_iinRange pre_iinRange g_iinRange))
def QF3 : FuncId → Bool := qadd QF2 89
theorem G3 : Good Try.prog tt S3 QF3 := G2.addQ c_iinRange ⟨Try.f89, by kernel_rfl, by kernel_rfl, by kernel_rfl⟩ (fun _ => rfl)

/-! 85 loop.example/g00244/impl.isId -/
abbrev P_iisId : List PSh := [.t (.int .i64)]
def iisId (a0 : Int) : Bool := (iinRange a0 (0 : Int) (7 : Int))
abbrev e_iisId (r : Bool) : AV × List AObj := ((.t true .bool r), [])
abbrev g_iisId : pshsDen P_iisId → AV × List AObj := fun d => e_iisId (iisId d.1)
abbrev pre_iisId : pshsDen P_iisId → Bool := fun d => true
theorem runA_iisId (a0 : Int) : runP true Try.prog tt S3 QF3 (fun _ _ => none) Try.f85 (argsMk P_iisId (a0, ())) = some (g_iisId (a0, ())) := by
  kernel_rfl
theorem run_iisId : ∀ d, pre_iisId d = true → runP true Try.prog tt S3 QF3 (fun _ _ => none) Try.f85 (argsMk P_iisId d) = some (g_iisId d) := fun d hp => runA_iisId d.1
theorem c_iisId : PContract Try.prog 85 (sumOf P_iisId pre_iisId g_iisId) := PContract.of_data true G3 (fn := Try.f85) (by kernel_rfl) (L := fun _ _ => none) (by rw [show loopsIn 0 (bodyOf Try.f85) = [] by kernel_rfl]; simp) P_iisId pre_iisId g_iisId run_iisId
def S4 : Tab := Tab.add S3 85 (lift (sumOf P_iisId pre_iisId g_iisId))
def QF4 : FuncId → Bool := qadd QF3 85
theorem G4 : Good Try.prog tt S4 QF4 := G3.addQ c_iisId ⟨Try.f85, by kernel_rfl, by kernel_rfl, by kernel_rfl⟩ (fun _ => rfl)

/-! 26 loop.example/g00244/impl.ShardNew -/
abbrev P_iShardNew : List PSh := [.t (.int .i64)]
def iShardNew (a0 : Int) : Int × (List (Int × Int × List (Int × ByteArray × ByteArray))) × Int × (List (ByteArray × ByteArray)) × List (Int × Int × List (Int × ByteArray × ByteArray)) := (cond (!(iisId a0)) ((0 : Int), [], (0 : Int), [], []) (a0, [], (0 : Int), [], []))
abbrev e_iShardNew (r : Int × (List (Int × Int × List (Int × ByteArray × ByteArray))) × Int × (List (ByteArray × ByteArray)) × List (Int × Int × List (Int × ByteArray × ByteArray))) : AV × List AObj := ((.agg [(.t true (.int .i64) r.1), (.t true (.sl (.pair (.int .i64) (.pair (.int .i64) (.sl (.pair (.int .i64) (.pair .str .str)))))) r.2.1), (.t true (.int .i64) r.2.2.1), (.t true (.sl (.pair .str .str)) r.2.2.2.1), (.t true (.sl (.pair (.int .i64) (.pair (.int .i64) (.sl (.pair (.int .i64) (.pair .str .str)))))) r.2.2.2.2)]), [])
abbrev g_iShardNew : pshsDen P_iShardNew → AV × List AObj := fun d => e_iShardNew (iShardNew d.1)
abbrev pre_iShardNew : pshsDen P_iShardNew → Bool := fun d => true
theorem runA_iShardNew (a0 : Int) : runP true Try.prog tt S4 QF4 (fun _ _ => none) Try.f26 (argsMk P_iShardNew (a0, ())) = some (g_iShardNew (a0, ())) := by
  refine Eq.trans (b := (cond (!(iisId a0)) (some (e_iShardNew ((0 : Int), [], (0 : Int), [], []))) (some (e_iShardNew (a0, [], (0 : Int), [], []))))) (by kernel_rfl) ?_
  exact (cnd (F := fun r => some (e_iShardNew r)) (fun _h => rfl) (fun _h => rfl))
theorem run_iShardNew : ∀ d, pre_iShardNew d = true → runP true Try.prog tt S4 QF4 (fun _ _ => none) Try.f26 (argsMk P_iShardNew d) = some (g_iShardNew d) := fun d hp => runA_iShardNew d.1
theorem c_iShardNew : PContract Try.prog 26 (sumOf P_iShardNew pre_iShardNew g_iShardNew) := PContract.of_data true G4 (fn := Try.f26) (by kernel_rfl) (L := fun _ _ => none) (by rw [show loopsIn 0 (bodyOf Try.f26) = [] by kernel_rfl]; simp) P_iShardNew pre_iShardNew g_iShardNew run_iShardNew
def S5 : Tab := Tab.add S4 26 (lift (sumOf P_iShardNew pre_iShardNew g_iShardNew))
def QF5 : FuncId → Bool := qadd QF4 26
theorem G5 : Good Try.prog tt S5 QF5 := G4.addQ c_iShardNew ⟨Try.f26, by kernel_rfl, by kernel_rfl, by kernel_rfl⟩ (fun _ => rfl)

/-! 111 loop.example/g00244/laws.eqOp -/
abbrev P_leqOp : List PSh := [.agg [(.int .i64), .str, .str], .agg [(.int .i64), .str, .str]]
def leqOp (a0 : Int) (a1 : ByteArray) (a2 : ByteArray) (a3 : Int) (a4 : ByteArray) (a5 : ByteArray) : Bool := (cond (a0 != a3) false (cond (!(a1.toList == a4.toList)) false (cond (!(a2.toList == a5.toList)) false true)))
abbrev e_leqOp (r : Bool) : AV × List AObj := ((.t true .bool r), [])
abbrev g_leqOp : pshsDen P_leqOp → AV × List AObj := fun d => e_leqOp (leqOp d.1.1 d.1.2.1 d.1.2.2.1 d.2.1.1 d.2.1.2.1 d.2.1.2.2.1)
abbrev pre_leqOp : pshsDen P_leqOp → Bool := fun d => true
theorem runA_leqOp (a0 : Int) (a1 : ByteArray) (a2 : ByteArray) (a3 : Int) (a4 : ByteArray) (a5 : ByteArray) : runP true Try.prog tt S5 QF5 (fun _ _ => none) Try.f111 (argsMk P_leqOp ((a0, (a1, (a2, ()))), ((a3, (a4, (a5, ()))), ()))) = some (g_leqOp ((a0, (a1, (a2, ()))), ((a3, (a4, (a5, ()))), ()))) := by
  refine Eq.trans (b := (cond (a0 != a3) (some (e_leqOp false)) (cond (!(a1.toList == a4.toList)) (some (e_leqOp false)) (cond (!(a2.toList == a5.toList)) (some (e_leqOp false)) (some (e_leqOp true)))))) (by kernel_rfl) ?_
  exact (cnd (F := fun r => some (e_leqOp r)) (fun _h => rfl) (fun _h => (cnd (F := fun r => some (e_leqOp r)) (fun _h => rfl) (fun _h => (cnd (F := fun r => some (e_leqOp r)) (fun _h => rfl) (fun _h => rfl))))))
theorem run_leqOp : ∀ d, pre_leqOp d = true → runP true Try.prog tt S5 QF5 (fun _ _ => none) Try.f111 (argsMk P_leqOp d) = some (g_leqOp d) := fun d hp => runA_leqOp d.1.1 d.1.2.1 d.1.2.2.1 d.2.1.1 d.2.1.2.1 d.2.1.2.2.1
theorem c_leqOp : PContract Try.prog 111 (sumOf P_leqOp pre_leqOp g_leqOp) := PContract.of_data true G5 (fn := Try.f111) (by kernel_rfl) (L := fun _ _ => none) (by rw [show loopsIn 0 (bodyOf Try.f111) = [] by kernel_rfl]; simp) P_leqOp pre_leqOp g_leqOp run_leqOp
def S6 : Tab := Tab.add S5 111 (lift (sumOf P_leqOp pre_leqOp g_leqOp))
def QF6 : FuncId → Bool := qadd QF5 111
theorem G6 : Good Try.prog tt S6 QF6 := G5.addQ c_leqOp ⟨Try.f111, by kernel_rfl, by kernel_rfl, by kernel_rfl⟩ (fun _ => rfl)

/-! 48 loop.example/g00244/laws.eqOpS -/

def f_leqOpS_0 (x0 x1 : List (Int × ByteArray × ByteArray)) (i : Nat) : Bool := !(!(leqOp ((x0.getD i ((0 : Int), ((⟨#[]⟩ : ByteArray), (⟨#[]⟩ : ByteArray)))).1) (((x0.getD i ((0 : Int), ((⟨#[]⟩ : ByteArray), (⟨#[]⟩ : ByteArray)))).2).1) (((x0.getD i ((0 : Int), ((⟨#[]⟩ : ByteArray), (⟨#[]⟩ : ByteArray)))).2).2) ((x1.getD i ((0 : Int), ((⟨#[]⟩ : ByteArray), (⟨#[]⟩ : ByteArray)))).1) (((x1.getD i ((0 : Int), ((⟨#[]⟩ : ByteArray), (⟨#[]⟩ : ByteArray)))).2).1) (((x1.getD i ((0 : Int), ((⟨#[]⟩ : ByteArray), (⟨#[]⟩ : ByteArray)))).2).2)))
abbrev P_leqOpS : List PSh := [.t (.sl (.pair (.int .i64) (.pair .str .str))), .t (.sl (.pair (.int .i64) (.pair .str .str)))]
abbrev S_leqOpS_0 : SS := ⟨[.t false (.sl (.pair (.int .i64) (.pair .str .str))), .t false (.sl (.pair (.int .i64) (.pair .str .str))), .junk, .junk, .junk, .t true (.int .i64), .junk, .junk, .junk, .junk, .junk, .junk, .junk, .junk, .junk, .junk, .junk, .junk, .junk, .junk, .junk, .junk, .junk, .junk, .junk, .junk, .junk], []⟩
abbrev E_leqOpS_0_0 : SS := ⟨[.junk, .junk, .junk, .junk, .t true .bool, .junk, .junk, .junk, .junk, .junk, .junk, .junk, .junk, .junk, .junk, .junk, .junk, .junk, .junk, .junk, .junk, .junk, .junk, .junk, .junk, .junk, .junk], []⟩
abbrev E_leqOpS_0_1 : SS := ⟨[.junk, .junk, .junk, .junk, .junk, .junk, .junk, .junk, .junk, .junk, .junk, .junk, .junk, .junk, .junk, .junk, .junk, .junk, .junk, .junk, .junk, .junk, .junk, .junk, .junk, .junk, .junk], []⟩
def st_leqOpS_0 (x0 : List (Int × ByteArray × ByteArray)) (x1 : List (Int × ByteArray × ByteArray)) (x5 : Int) : RT S_leqOpS_0.den := (.br (decide (x5 < ((x0.length : Nat) : Int))) (.br (decide (0 ≤ x5 ∧ x5 < ((x0.length : Nat) : Int))) (.br (decide (0 ≤ x5 ∧ x5 < ((x1.length : Nat) : Int))) (.br (!(leqOp ((x0.getD x5.toNat ((0 : Int), ((⟨#[]⟩ : ByteArray), (⟨#[]⟩ : ByteArray)))).1) (((x0.getD x5.toNat ((0 : Int), ((⟨#[]⟩ : ByteArray), (⟨#[]⟩ : ByteArray)))).2).1) (((x0.getD x5.toNat ((0 : Int), ((⟨#[]⟩ : ByteArray), (⟨#[]⟩ : ByteArray)))).2).2) ((x1.getD x5.toNat ((0 : Int), ((⟨#[]⟩ : ByteArray), (⟨#[]⟩ : ByteArray)))).1) (((x1.getD x5.toNat ((0 : Int), ((⟨#[]⟩ : ByteArray), (⟨#[]⟩ : ByteArray)))).2).1) (((x1.getD x5.toNat ((0 : Int), ((⟨#[]⟩ : ByteArray), (⟨#[]⟩ : ByteArray)))).2).2))) (.done .ret E_leqOpS_0_0 (((), (), (), (), false, (), (), (), (), (), (), (), (), (), (), (), (), (), (), (), (), (), (), (), (), (), (), ()), ())) (.next ((x0, x1, (), (), (), IntKind.wrap .i64 (x5 + (1 : Int)), (), (), (), (), (), (), (), (), (), (), (), (), (), (), (), (), (), (), (), (), (), ()), ()))) .fail) .fail) (.done (.exit 0) E_leqOpS_0_1 (((), (), (), (), (), (), (), (), (), (), (), (), (), (), (), (), (), (), (), (), (), (), (), (), (), (), (), ()), ())))
def T_leqOpS_0 (x0 : List (Int × ByteArray × ByteArray)) (x1 : List (Int × ByteArray × ByteArray)) (x5 : Int) : CT := (.br (decide (0 ≤ x5) && (decide (x0.length = x1.length) && okL x0)) (.br (allF (f_leqOpS_0 x0 x1) (x0.length - x5.toNat) x5.toNat) (.done (.exit 0) E_leqOpS_0_1 (((), (), (), (), (), (), (), (), (), (), (), (), (), (), (), (), (), (), (), (), (), (), (), (), (), (), (), ()), ())) (.done .ret E_leqOpS_0_0 (((), (), (), (), false, (), (), (), (), (), (), (), (), (), (), (), (), (), (), (), (), (), (), (), (), (), (), ()), ()))) .fail)
abbrev sp_leqOpS_0 : S_leqOpS_0.den → RT S_leqOpS_0.den := fun d => st_leqOpS_0 d.1.1 d.1.2.1 d.1.2.2.2.2.2.1
abbrev pk_leqOpS_0 (x0 : List (Int × ByteArray × ByteArray)) (x1 : List (Int × ByteArray × ByteArray)) (x5 : Int) : S_leqOpS_0.den := ((x0, x1, (), (), (), x5, (), (), (), (), (), (), (), (), (), (), (), (), (), (), (), (), (), (), (), (), (), ()), ())
noncomputable def body_leqOpS_0 : Code := ((loopsIn 0 (bodyOf Try.f48)).getD 0 (0, .skip)).2
theorem R_leqOpS_0 (x0 : List (Int × ByteArray × ByteArray)) (x1 : List (Int × ByteArray × ByteArray)) (x5 : Int) : (T_leqOpS_0 x0 x1 x5).val (D := S_leqOpS_0.den) = .fail ∨ Runs sp_leqOpS_0 (pk_leqOpS_0 x0 x1 x5) (T_leqOpS_0 x0 x1 x5).val := by
  cases hc : (decide (0 ≤ x5) && (decide (x0.length = x1.length) && okL x0)) with
  | false => left; simp only [T_leqOpS_0, CT.val, hc, cond_false]
  | true =>
    right
    simp only [T_leqOpS_0, CT.val, hc, cond_true]
    simp only [Bool.and_eq_true, decide_eq_true_eq] at hc
    obtain ⟨i, rfl⟩ := Int.eq_ofNat_of_zero_le hc.1
    have hs := okL_le hc.2.2
    simp only [Int.toNat_natCast]
    refine Runs.scan (fun j => pk_leqOpS_0 x0 x1 (j : Int)) (x0.length) (f_leqOpS_0 x0 x1) (fun i hi => ?_) (fun i hi => ?_) ⟨_, _, _, rfl, by simp⟩ ⟨_, _, _, rfl, by simp⟩ _ _ rfl
    · 
      have h0a : decide ((i : Int) < ((x0.length : Nat) : Int)) = true := decide_eq_true (by omega)
      have h0b : decide (0 ≤ (i : Int) ∧ (i : Int) < ((x0.length : Nat) : Int)) = true := decide_eq_true (by omega)
      simp only [sp_leqOpS_0, st_leqOpS_0, RT.val, h0a, h0b, cond_true, wrapS i (by omega), Int.toNat_natCast]
      have h9 : decide (0 ≤ (i : Int) ∧ (i : Int) < ((x1.length : Nat) : Int)) = true := decide_eq_true (by omega)
      simp only [h9, cond_true]
      simp only [f_leqOpS_0]
      generalize (!(leqOp ((x0.getD i ((0 : Int), ((⟨#[]⟩ : ByteArray), (⟨#[]⟩ : ByteArray)))).1) (((x0.getD i ((0 : Int), ((⟨#[]⟩ : ByteArray), (⟨#[]⟩ : ByteArray)))).2).1) (((x0.getD i ((0 : Int), ((⟨#[]⟩ : ByteArray), (⟨#[]⟩ : ByteArray)))).2).2) ((x1.getD i ((0 : Int), ((⟨#[]⟩ : ByteArray), (⟨#[]⟩ : ByteArray)))).1) (((x1.getD i ((0 : Int), ((⟨#[]⟩ : ByteArray), (⟨#[]⟩ : ByteArray)))).2).1) (((x1.getD i ((0 : Int), ((⟨#[]⟩ : ByteArray), (⟨#[]⟩ : ByteArray)))).2).2))) = c
      cases c <;> rfl
    · have h1 : decide ((i : Int) < ((x0.length : Nat) : Int)) = false := decide_eq_false (by omega)
      simp only [sp_leqOpS_0, st_leqOpS_0, RT.val, h1, cond_false]
theorem rd_leqOpS_0 : ∀ d base killed, execC Try.prog tt S6 QF6 (fun _ _ => none) 0 body_leqOpS_0 (S_leqOpS_0.st d base killed) (fun e s' => some (e, S_leqOpS_0.cutE (kepts [4] [(0, [])]) e s')) = (sp_leqOpS_0 d).opt base killed := by
  intro d base killed
  kernel_rfl
abbrev say_leqOpS_0 : St → Option Tree := S_leqOpS_0.say [] (fun d => T_leqOpS_0 d.1.1 d.1.2.1 d.1.2.2.2.2.2.1)
theorem lw_leqOpS_0 : LoopWp Try.prog say_leqOpS_0 body_leqOpS_0 := SS.wp G6 (fun _ _ => none) (by rw [show loopsIn 0 body_leqOpS_0 = [] by kernel_rfl]; simp) S_leqOpS_0 (kepts [4] [(0, [])]) [] sp_leqOpS_0 rd_leqOpS_0 _ (fun d => R_leqOpS_0 d.1.1 d.1.2.1 d.1.2.2.2.2.2.1)
def leqOpS (a0 : List (Int × ByteArray × ByteArray)) (a1 : List (Int × ByteArray × ByteArray)) : Bool := (cond (((a0.length : Nat) : Int) != ((a1.length : Nat) : Int)) false (cond (allF (f_leqOpS_0 a0 a1) (a0.length - (0 : Int).toNat) (0 : Int).toNat) true false))
abbrev e_leqOpS (r : Bool) : AV × List AObj := ((.t true .bool r), [])
abbrev g_leqOpS : pshsDen P_leqOpS → AV × List AObj := fun d => e_leqOpS (leqOpS d.1 d.2.1)
def q_leqOpS (a0 : List (Int × ByteArray × ByteArray)) (a1 : List (Int × ByteArray × ByteArray)) : Bool := okL a0
abbrev pre_leqOpS : pshsDen P_leqOpS → Bool := fun d => q_leqOpS d.1 d.2.1
theorem runA_leqOpS (a0 : List (Int × ByteArray × ByteArray)) (a1 : List (Int × ByteArray × ByteArray)) (hp : (okL a0) = true) : runP true Try.prog tt S6 QF6 (fun b => match b with | 0 => say_leqOpS_0 | _ => fun _ => none) Try.f48 (argsMk P_leqOpS (a0, (a1, ()))) = some (g_leqOpS (a0, (a1, ()))) := by
  refine Eq.trans (b := (cond (((a0.length : Nat) : Int) != ((a1.length : Nat) : Int)) (some (e_leqOpS false)) (cond (decide (0 ≤ (0 : Int)) && (decide (a0.length = a1.length) && okL a0)) (cond (allF (f_leqOpS_0 a0 a1) (a0.length - (0 : Int).toNat) (0 : Int).toNat) (some (e_leqOpS true)) (some (e_leqOpS false))) none))) (by kernel_rfl) ?_
  exact (cnd (F := fun r => some (e_leqOpS r)) (fun _h => rfl) (fun _h => (cndT (by simp only [okL, Bool.and_eq_true, decide_eq_true_eq] at hp ⊢; simp at _h; exact ⟨Int.le_refl 0, by omega, hp⟩) (fun _h => (cnd (F := fun r => some (e_leqOpS r)) (fun _h => rfl) (fun _h => rfl))))))
theorem run_leqOpS : ∀ d, pre_leqOpS d = true → runP true Try.prog tt S6 QF6 (fun b => match b with | 0 => say_leqOpS_0 | _ => fun _ => none) Try.f48 (argsMk P_leqOpS d) = some (g_leqOpS d) := fun d hp => runA_leqOpS d.1 d.2.1 hp
theorem c_leqOpS : PContract Try.prog 48 (sumOf P_leqOpS pre_leqOpS g_leqOpS) := PContract.of_data true G6 (fn := Try.f48) (by kernel_rfl) (L := fun b => match b with | 0 => say_leqOpS_0 | _ => fun _ => none) (by rw [show loopsIn 0 (bodyOf Try.f48) = [(0, body_leqOpS_0)] by kernel_rfl]; intro p hp; simp only [List.mem_singleton] at hp; subst hp; exact lw_leqOpS_0) P_leqOpS pre_leqOpS g_leqOpS run_leqOpS
def S7 : Tab := Tab.add S6 48 (lift (sumOf P_leqOpS pre_leqOpS g_leqOpS))
def QF7 : FuncId → Bool := qadd QF6 48
theorem G7 : Good Try.prog tt S7 QF7 := G6.addQ c_leqOpS ⟨Try.f48, by kernel_rfl, by kernel_rfl, by kernel_rfl⟩ (fun _ => rfl)

/-! 19 loop.example/g00244/laws.eqRec -/
abbrev P_leqRec : List PSh := [.agg [(.int .i64), (.int .i64), (.sl (.pair (.int .i64) (.pair .str .str)))], .agg [(.int .i64), (.int .i64), (.sl (.pair (.int .i64) (.pair .str .str)))]]
def leqRec (a0 : Int) (a1 : Int) (a2 : List (Int × ByteArray × ByteArray)) (a3 : Int) (a4 : Int) (a5 : List (Int × ByteArray × ByteArray)) : Bool := (cond (a0 != a3) false (cond (a1 != a4) false (cond (!(leqOpS a2 a5)) false true)))
abbrev e_leqRec (r : Bool) : AV × List AObj := ((.t true .bool r), [])
abbrev g_leqRec : pshsDen P_leqRec → AV × List AObj := fun d => e_leqRec (leqRec d.1.1 d.1.2.1 d.1.2.2.1 d.2.1.1 d.2.1.2.1 d.2.1.2.2.1)
def q_leqRec (a0 : Int) (a1 : Int) (a2 : List (Int × ByteArray × ByteArray)) (a3 : Int) (a4 : Int) (a5 : List (Int × ByteArray × ByteArray)) : Bool := okL a2
abbrev pre_leqRec : pshsDen P_leqRec → Bool := fun d => q_leqRec d.1.1 d.1.2.1 d.1.2.2.1 d.2.1.1 d.2.1.2.1 d.2.1.2.2.1
theorem runA_leqRec (a0 : Int) (a1 : Int) (a2 : List (Int × ByteArray × ByteArray)) (a3 : Int) (a4 : Int) (a5 : List (Int × ByteArray × ByteArray)) (hp : (okL a2) = true) : runP true Try.prog tt S7 QF7 (fun _ _ => none) Try.f19 (argsMk P_leqRec ((a0, (a1, (a2, ()))), ((a3, (a4, (a5, ()))), ()))) = some (g_leqRec ((a0, (a1, (a2, ()))), ((a3, (a4, (a5, ()))), ()))) := by
  refine Eq.trans (b := (cond (a0 != a3) (some (e_leqRec false)) (cond (a1 != a4) (some (e_leqRec false)) (cond (q_leqOpS a2 a5) (cond (!(leqOpS a2 a5)) (some (e_leqRec false)) (some (e_leqRec true))) none)))) (by kernel_rfl) ?_
  exact (cnd (F := fun r => some (e_leqRec r)) (fun _h => rfl) (fun _h => (cnd (F := fun r => some (e_leqRec r)) (fun _h => rfl) (fun _h => (cndT (by first | rfl | decide | exact hp | (simp only [Bool.and_eq_true] at hp; simp only [hp]; done) | (simp [*]; done) | (simp [okL] at hp; simp [okL, MAXB]; omega) | (simp_all; done) | (simp at *; omega)) (fun _h => (cnd (F := fun r => some (e_leqRec r)) (fun _h => rfl) (fun _h => rfl))))))))
theorem run_leqRec : ∀ d, pre_leqRec d = true → runP true Try.prog tt S7 QF7 (fun _ _ => none) Try.f19 (argsMk P_leqRec d) = some (g_leqRec d) := fun d hp => runA_leqRec d.1.1 d.1.2.1 d.1.2.2.1 d.2.1.1 d.2.1.2.1 d.2.1.2.2.1 hp
theorem c_leqRec : PContract Try.prog 19 (sumOf P_leqRec pre_leqRec g_leqRec) := PContract.of_data true G7 (fn := Try.f19) (by kernel_rfl) (L := fun _ _ => none) (by rw [show loopsIn 0 (bodyOf Try.f19) = [] by kernel_rfl]; simp) P_leqRec pre_leqRec g_leqRec run_leqRec
def S8 : Tab := Tab.add S7 19 (lift (sumOf P_leqRec pre_leqRec g_leqRec))
def QF8 : FuncId → Bool := qadd QF7 19
theorem G8 : Good Try.prog tt S8 QF8 := G7.addQ c_leqRec ⟨Try.f19, by kernel_rfl, by kernel_rfl, by kernel_rfl⟩ (fun _ => rfl)

/-! 86 loop.example/g00244/laws.eqRecS -/

def f_leqRecS_0 (x0 x1 : List (Int × Int × List (Int × ByteArray × ByteArray))) (i : Nat) : Bool := !(!(leqRec ((x0.getD i ((0 : Int), ((0 : Int), []))).1) (((x0.getD i ((0 : Int), ((0 : Int), []))).2).1) (((x0.getD i ((0 : Int), ((0 : Int), []))).2).2) ((x1.getD i ((0 : Int), ((0 : Int), []))).1) (((x1.getD i ((0 : Int), ((0 : Int), []))).2).1) (((x1.getD i ((0 : Int), ((0 : Int), []))).2).2)))
def qs_leqRecS_0 (x0 x1 : List (Int × Int × List (Int × ByteArray × ByteArray))) (i : Nat) : Bool := (q_leqRec ((x0.getD i ((0 : Int), ((0 : Int), []))).1) (((x0.getD i ((0 : Int), ((0 : Int), []))).2).1) (((x0.getD i ((0 : Int), ((0 : Int), []))).2).2) ((x1.getD i ((0 : Int), ((0 : Int), []))).1) (((x1.getD i ((0 : Int), ((0 : Int), []))).2).1) (((x1.getD i ((0 : Int), ((0 : Int), []))).2).2))
abbrev P_leqRecS : List PSh := [.t (.sl (.pair (.int .i64) (.pair (.int .i64) (.sl (.pair (.int .i64) (.pair .str .str)))))), .t (.sl (.pair (.int .i64) (.pair (.int .i64) (.sl (.pair (.int .i64) (.pair .str .str))))))]
abbrev S_leqRecS_0 : SS := ⟨[.t false (.sl (.pair (.int .i64) (.pair (.int .i64) (.sl (.pair (.int .i64) (.pair .str .str)))))), .t false (.sl (.pair (.int .i64) (.pair (.int .i64) (.sl (.pair (.int .i64) (.pair .str .str)))))), .junk, .junk, .junk, .t true (.int .i64), .junk, .junk, .junk, .junk, .junk, .junk, .junk, .junk, .junk, .junk, .junk, .junk, .junk, .junk, .junk, .junk, .junk, .junk, .junk, .junk, .junk], []⟩
abbrev E_leqRecS_0_0 : SS := ⟨[.junk, .junk, .junk, .junk, .t true .bool, .junk, .junk, .junk, .junk, .junk, .junk, .junk, .junk, .junk, .junk, .junk, .junk, .junk, .junk, .junk, .junk, .junk, .junk, .junk, .junk, .junk, .junk], []⟩
abbrev E_leqRecS_0_1 : SS := ⟨[.junk, .junk, .junk, .junk, .junk, .junk, .junk, .junk, .junk, .junk, .junk, .junk, .junk, .junk, .junk, .junk, .junk, .junk, .junk, .junk, .junk, .junk, .junk, .junk, .junk, .junk, .junk], []⟩
def st_leqRecS_0 (x0 : List (Int × Int × List (Int × ByteArray × ByteArray))) (x1 : List (Int × Int × List (Int × ByteArray × ByteArray))) (x5 : Int) : RT S_leqRecS_0.den := (.br (decide (x5 < ((x0.length : Nat) : Int))) (.br (decide (0 ≤ x5 ∧ x5 < ((x0.length : Nat) : Int))) (.br (decide (0 ≤ x5 ∧ x5 < ((x1.length : Nat) : Int))) (.br (q_leqRec ((x0.getD x5.toNat ((0 : Int), ((0 : Int), []))).1) (((x0.getD x5.toNat ((0 : Int), ((0 : Int), []))).2).1) (((x0.getD x5.toNat ((0 : Int), ((0 : Int), []))).2).2) ((x1.getD x5.toNat ((0 : Int), ((0 : Int), []))).1) (((x1.getD x5.toNat ((0 : Int), ((0 : Int), []))).2).1) (((x1.getD x5.toNat ((0 : Int), ((0 : Int), []))).2).2)) (.br (!(leqRec ((x0.getD x5.toNat ((0 : Int), ((0 : Int), []))).1) (((x0.getD x5.toNat ((0 : Int), ((0 : Int), []))).2).1) (((x0.getD x5.toNat ((0 : Int), ((0 : Int), []))).2).2) ((x1.getD x5.toNat ((0 : Int), ((0 : Int), []))).1) (((x1.getD x5.toNat ((0 : Int), ((0 : Int), []))).2).1) (((x1.getD x5.toNat ((0 : Int), ((0 : Int), []))).2).2))) (.done .ret E_leqRecS_0_0 (((), (), (), (), false, (), (), (), (), (), (), (), (), (), (), (), (), (), (), (), (), (), (), (), (), (), (), ()), ())) (.next ((x0, x1, (), (), (), IntKind.wrap .i64 (x5 + (1 : Int)), (), (), (), (), (), (), (), (), (), (), (), (), (), (), (), (), (), (), (), (), (), ()), ()))) .fail) .fail) .fail) (.done (.exit 0) E_leqRecS_0_1 (((), (), (), (), (), (), (), (), (), (), (), (), (), (), (), (), (), (), (), (), (), (), (), (), (), (), (), ()), ())))
def T_leqRecS_0 (x0 : List (Int × Int × List (Int × ByteArray × ByteArray))) (x1 : List (Int × Int × List (Int × ByteArray × ByteArray))) (x5 : Int) : CT := (.br (decide (0 ≤ x5) && (decide (x0.length = x1.length) && (okL x0 && allF (qs_leqRecS_0 x0 x1) x0.length 0))) (.br (allF (f_leqRecS_0 x0 x1) (x0.length - x5.toNat) x5.toNat) (.done (.exit 0) E_leqRecS_0_1 (((), (), (), (), (), (), (), (), (), (), (), (), (), (), (), (), (), (), (), (), (), (), (), (), (), (), (), ()), ())) (.done .ret E_leqRecS_0_0 (((), (), (), (), false, (), (), (), (), (), (), (), (), (), (), (), (), (), (), (), (), (), (), (), (), (), (), ()), ()))) .fail)
abbrev sp_leqRecS_0 : S_leqRecS_0.den → RT S_leqRecS_0.den := fun d => st_leqRecS_0 d.1.1 d.1.2.1 d.1.2.2.2.2.2.1
abbrev pk_leqRecS_0 (x0 : List (Int × Int × List (Int × ByteArray × ByteArray))) (x1 : List (Int × Int × List (Int × ByteArray × ByteArray))) (x5 : Int) : S_leqRecS_0.den := ((x0, x1, (), (), (), x5, (), (), (), (), (), (), (), (), (), (), (), (), (), (), (), (), (), (), (), (), (), ()), ())
noncomputable def body_leqRecS_0 : Code := ((loopsIn 0 (bodyOf Try.f86)).getD 0 (0, .skip)).2
theorem R_leqRecS_0 (x0 : List (Int × Int × List (Int × ByteArray × ByteArray))) (x1 : List (Int × Int × List (Int × ByteArray × ByteArray))) (x5 : Int) : (T_leqRecS_0 x0 x1 x5).val (D := S_leqRecS_0.den) = .fail ∨ Runs sp_leqRecS_0 (pk_leqRecS_0 x0 x1 x5) (T_leqRecS_0 x0 x1 x5).val := by
  cases hc : (decide (0 ≤ x5) && (decide (x0.length = x1.length) && (okL x0 && allF (qs_leqRecS_0 x0 x1) x0.length 0))) with
  | false => left; simp only [T_leqRecS_0, CT.val, hc, cond_false]
  | true =>
    right
    simp only [T_leqRecS_0, CT.val, hc, cond_true]
    simp only [Bool.and_eq_true, decide_eq_true_eq] at hc
    obtain ⟨i, rfl⟩ := Int.eq_ofNat_of_zero_le hc.1
    have hs := okL_le hc.2.2.1
    simp only [Int.toNat_natCast]
    refine Runs.scan (fun j => pk_leqRecS_0 x0 x1 (j : Int)) (x0.length) (f_leqRecS_0 x0 x1) (fun i hi => ?_) (fun i hi => ?_) ⟨_, _, _, rfl, by simp⟩ ⟨_, _, _, rfl, by simp⟩ _ _ rfl
    · 
      have h0a : decide ((i : Int) < ((x0.length : Nat) : Int)) = true := decide_eq_true (by omega)
      have h0b : decide (0 ≤ (i : Int) ∧ (i : Int) < ((x0.length : Nat) : Int)) = true := decide_eq_true (by omega)
      simp only [sp_leqRecS_0, st_leqRecS_0, RT.val, h0a, h0b, cond_true, wrapS i (by omega), Int.toNat_natCast]
      have h9 : decide (0 ≤ (i : Int) ∧ (i : Int) < ((x1.length : Nat) : Int)) = true := decide_eq_true (by omega)
      simp only [h9, cond_true]
      have hq := (allF_true _ _).1 hc.2.2.2 i (Nat.zero_le _) (by omega)
      simp only [qs_leqRecS_0, Bool.and_eq_true] at hq
      simp only [hq, cond_true]
      simp only [f_leqRecS_0]
      generalize (!(leqRec ((x0.getD i ((0 : Int), ((0 : Int), []))).1) (((x0.getD i ((0 : Int), ((0 : Int), []))).2).1) (((x0.getD i ((0 : Int), ((0 : Int), []))).2).2) ((x1.getD i ((0 : Int), ((0 : Int), []))).1) (((x1.getD i ((0 : Int), ((0 : Int), []))).2).1) (((x1.getD i ((0 : Int), ((0 : Int), []))).2).2))) = c
      cases c <;> rfl
    · have h1 : decide ((i : Int) < ((x0.length : Nat) : Int)) = false := decide_eq_false (by omega)
      simp only [sp_leqRecS_0, st_leqRecS_0, RT.val, h1, cond_false]
theorem rd_leqRecS_0 : ∀ d base killed, execC Try.prog tt S8 QF8 (fun _ _ => none) 0 body_leqRecS_0 (S_leqRecS_0.st d base killed) (fun e s' => some (e, S_leqRecS_0.cutE (kepts [4] [(0, [])]) e s')) = (sp_leqRecS_0 d).opt base killed := by
  intro d base killed
  kernel_rfl
abbrev say_leqRecS_0 : St → Option Tree := S_leqRecS_0.say [] (fun d => T_leqRecS_0 d.1.1 d.1.2.1 d.1.2.2.2.2.2.1)
theorem lw_leqRecS_0 : LoopWp Try.prog say_leqRecS_0 body_leqRecS_0 := SS.wp G8 (fun _ _ => none) (by rw [show loopsIn 0 body_leqRecS_0 = [] by kernel_rfl]; simp) S_leqRecS_0 (kepts [4] [(0, [])]) [] sp_leqRecS_0 rd_leqRecS_0 _ (fun d => R_leqRecS_0 d.1.1 d.1.2.1 d.1.2.2.2.2.2.1)
def leqRecS (a0 : List (Int × Int × List (Int × ByteArray × ByteArray))) (a1 : List (Int × Int × List (Int × ByteArray × ByteArray))) : Bool := (cond (((a0.length : Nat) : Int) != ((a1.length : Nat) : Int)) false (cond (allF (f_leqRecS_0 a0 a1) (a0.length - (0 : Int).toNat) (0 : Int).toNat) true false))
abbrev e_leqRecS (r : Bool) : AV × List AObj := ((.t true .bool r), [])
abbrev g_leqRecS : pshsDen P_leqRecS → AV × List AObj := fun d => e_leqRecS (leqRecS d.1 d.2.1)
def q_leqRecS (a0 : List (Int × Int × List (Int × ByteArray × ByteArray))) (a1 : List (Int × Int × List (Int × ByteArray × ByteArray))) : Bool := (okL a0 && allF (qs_leqRecS_0 a0 a1) a0.length 0)
abbrev pre_leqRecS : pshsDen P_leqRecS → Bool := fun d => q_leqRecS d.1 d.2.1
theorem runA_leqRecS (a0 : List (Int × Int × List (Int × ByteArray × ByteArray))) (a1 : List (Int × Int × List (Int × ByteArray × ByteArray))) (hp : ((okL a0 && allF (qs_leqRecS_0 a0 a1) a0.length 0)) = true) : runP true Try.prog tt S8 QF8 (fun b => match b with | 0 => say_leqRecS_0 | _ => fun _ => none) Try.f86 (argsMk P_leqRecS (a0, (a1, ()))) = some (g_leqRecS (a0, (a1, ()))) := by
  refine Eq.trans (b := (cond (((a0.length : Nat) : Int) != ((a1.length : Nat) : Int)) (some (e_leqRecS false)) (cond (decide (0 ≤ (0 : Int)) && (decide (a0.length = a1.length) && (okL a0 && allF (qs_leqRecS_0 a0 a1) a0.length 0))) (cond (allF (f_leqRecS_0 a0 a1) (a0.length - (0 : Int).toNat) (0 : Int).toNat) (some (e_leqRecS true)) (some (e_leqRecS false))) none))) (by kernel_rfl) ?_
  exact (cnd (F := fun r => some (e_leqRecS r)) (fun _h => rfl) (fun _h => (cndT (by simp only [okL, Bool.and_eq_true, decide_eq_true_eq] at hp ⊢; simp at _h; exact ⟨Int.le_refl 0, by omega, hp⟩) (fun _h => (cnd (F := fun r => some (e_leqRecS r)) (fun _h => rfl) (fun _h => rfl))))))
theorem run_leqRecS : ∀ d, pre_leqRecS d = true → runP true Try.prog tt S8 QF8 (fun b => match b with | 0 => say_leqRecS_0 | _ => fun _ => none) Try.f86 (argsMk P_leqRecS d) = some (g_leqRecS d) := fun d hp => runA_leqRecS d.1 d.2.1 hp
theorem c_leqRecS : PContract Try.prog 86 (sumOf P_leqRecS pre_leqRecS g_leqRecS) := PContract.of_data true G8 (fn := Try.f86) (by kernel_rfl) (L := fun b => match b with | 0 => say_leqRecS_0 | _ => fun _ => none) (by rw [show loopsIn 0 (bodyOf Try.f86) = [(0, body_leqRecS_0)] by kernel_rfl]; intro p hp; simp only [List.mem_singleton] at hp; subst hp; exact lw_leqRecS_0) P_leqRecS pre_leqRecS g_leqRecS run_leqRecS
def S9 : Tab := Tab.add S8 86 (lift (sumOf P_leqRecS pre_leqRecS g_leqRecS))
def QF9 : FuncId → Bool := qadd QF8 86
theorem G9 : Good Try.prog tt S9 QF9 := G8.addQ c_leqRecS ⟨Try.f86, by kernel_rfl, by kernel_rfl, by kernel_rfl⟩ (fun _ => rfl)

/-! 110 loop.example/g00244/laws.eqPair -/
abbrev P_leqPair : List PSh := [.agg [.str, .str], .agg [.str, .str]]
def leqPair (a0 : ByteArray) (a1 : ByteArray) (a2 : ByteArray) (a3 : ByteArray) : Bool := (cond (!(a0.toList == a2.toList)) false (cond (!(a1.toList == a3.toList)) false true))
abbrev e_leqPair (r : Bool) : AV × List AObj := ((.t true .bool r), [])
abbrev g_leqPair : pshsDen P_leqPair → AV × List AObj := fun d => e_leqPair (leqPair d.1.1 d.1.2.1 d.2.1.1 d.2.1.2.1)
abbrev pre_leqPair : pshsDen P_leqPair → Bool := fun d => true
theorem runA_leqPair (a0 : ByteArray) (a1 : ByteArray) (a2 : ByteArray) (a3 : ByteArray) : runP true Try.prog tt S9 QF9 (fun _ _ => none) Try.f110 (argsMk P_leqPair ((a0, (a1, ())), ((a2, (a3, ())), ()))) = some (g_leqPair ((a0, (a1, ())), ((a2, (a3, ())), ()))) := by
  refine Eq.trans (b := (cond (!(a0.toList == a2.toList)) (some (e_leqPair false)) (cond (!(a1.toList == a3.toList)) (some (e_leqPair false)) (some (e_leqPair true))))) (by kernel_rfl) ?_
  exact (cnd (F := fun r => some (e_leqPair r)) (fun _h => rfl) (fun _h => (cnd (F := fun r => some (e_leqPair r)) (fun _h => rfl) (fun _h => rfl))))
theorem run_leqPair : ∀ d, pre_leqPair d = true → runP true Try.prog tt S9 QF9 (fun _ _ => none) Try.f110 (argsMk P_leqPair d) = some (g_leqPair d) := fun d hp => runA_leqPair d.1.1 d.1.2.1 d.2.1.1 d.2.1.2.1
theorem c_leqPair : PContract Try.prog 110 (sumOf P_leqPair pre_leqPair g_leqPair) := PContract.of_data true G9 (fn := Try.f110) (by kernel_rfl) (L := fun _ _ => none) (by rw [show loopsIn 0 (bodyOf Try.f110) = [] by kernel_rfl]; simp) P_leqPair pre_leqPair g_leqPair run_leqPair
def S10 : Tab := Tab.add S9 110 (lift (sumOf P_leqPair pre_leqPair g_leqPair))
def QF10 : FuncId → Bool := qadd QF9 110
theorem G10 : Good Try.prog tt S10 QF10 := G9.addQ c_leqPair ⟨Try.f110, by kernel_rfl, by kernel_rfl, by kernel_rfl⟩ (fun _ => rfl)

/-! 47 loop.example/g00244/laws.eqPairS -/

def f_leqPairS_0 (x0 x1 : List (ByteArray × ByteArray)) (i : Nat) : Bool := !(!(leqPair ((x0.getD i ((⟨#[]⟩ : ByteArray), (⟨#[]⟩ : ByteArray))).1) ((x0.getD i ((⟨#[]⟩ : ByteArray), (⟨#[]⟩ : ByteArray))).2) ((x1.getD i ((⟨#[]⟩ : ByteArray), (⟨#[]⟩ : ByteArray))).1) ((x1.getD i ((⟨#[]⟩ : ByteArray), (⟨#[]⟩ : ByteArray))).2)))
abbrev P_leqPairS : List PSh := [.t (.sl (.pair .str .str)), .t (.sl (.pair .str .str))]
abbrev S_leqPairS_0 : SS := ⟨[.t false (.sl (.pair .str .str)), .t false (.sl (.pair .str .str)), .junk, .junk, .junk, .t true (.int .i64), .junk, .junk, .junk, .junk, .junk, .junk, .junk, .junk, .junk, .junk, .junk, .junk, .junk, .junk, .junk, .junk, .junk, .junk, .junk, .junk, .junk], []⟩
abbrev E_leqPairS_0_0 : SS := ⟨[.junk, .junk, .junk, .junk, .t true .bool, .junk, .junk, .junk, .junk, .junk, .junk, .junk, .junk, .junk, .junk, .junk, .junk, .junk, .junk, .junk, .junk, .junk, .junk, .junk, .junk, .junk, .junk], []⟩
abbrev E_leqPairS_0_1 : SS := ⟨[.junk, .junk, .junk, .junk, .junk, .junk, .junk, .junk, .junk, .junk, .junk, .junk, .junk, .junk, .junk, .junk, .junk, .junk, .junk, .junk, .junk, .junk, .junk, .junk, .junk, .junk, .junk], []⟩
def st_leqPairS_0 (x0 : List (ByteArray × ByteArray)) (x1 : List (ByteArray × ByteArray)) (x5 : Int) : RT S_leqPairS_0.den := (.br (decide (x5 < ((x0.length : Nat) : Int))) (.br (decide (0 ≤ x5 ∧ x5 < ((x0.length : Nat) : Int))) (.br (decide (0 ≤ x5 ∧ x5 < ((x1.length : Nat) : Int))) (.br (!(leqPair ((x0.getD x5.toNat ((⟨#[]⟩ : ByteArray), (⟨#[]⟩ : ByteArray))).1) ((x0.getD x5.toNat ((⟨#[]⟩ : ByteArray), (⟨#[]⟩ : ByteArray))).2) ((x1.getD x5.toNat ((⟨#[]⟩ : ByteArray), (⟨#[]⟩ : ByteArray))).1) ((x1.getD x5.toNat ((⟨#[]⟩ : ByteArray), (⟨#[]⟩ : ByteArray))).2))) (.done .ret E_leqPairS_0_0 (((), (), (), (), false, (), (), (), (), (), (), (), (), (), (), (), (), (), (), (), (), (), (), (), (), (), (), ()), ())) (.next ((x0, x1, (), (), (), IntKind.wrap .i64 (x5 + (1 : Int)), (), (), (), (), (), (), (), (), (), (), (), (), (), (), (), (), (), (), (), (), (), ()), ()))) .fail) .fail) (.done (.exit 0) E_leqPairS_0_1 (((), (), (), (), (), (), (), (), (), (), (), (), (), (), (), (), (), (), (), (), (), (), (), (), (), (), (), ()), ())))
def T_leqPairS_0 (x0 : List (ByteArray × ByteArray)) (x1 : List (ByteArray × ByteArray)) (x5 : Int) : CT := (.br (decide (0 ≤ x5) && (decide (x0.length = x1.length) && okL x0)) (.br (allF (f_leqPairS_0 x0 x1) (x0.length - x5.toNat) x5.toNat) (.done (.exit 0) E_leqPairS_0_1 (((), (), (), (), (), (), (), (), (), (), (), (), (), (), (), (), (), (), (), (), (), (), (), (), (), (), (), ()), ())) (.done .ret E_leqPairS_0_0 (((), (), (), (), false, (), (), (), (), (), (), (), (), (), (), (), (), (), (), (), (), (), (), (), (), (), (), ()), ()))) .fail)
abbrev sp_leqPairS_0 : S_leqPairS_0.den → RT S_leqPairS_0.den := fun d => st_leqPairS_0 d.1.1 d.1.2.1 d.1.2.2.2.2.2.1
abbrev pk_leqPairS_0 (x0 : List (ByteArray × ByteArray)) (x1 : List (ByteArray × ByteArray)) (x5 : Int) : S_leqPairS_0.den := ((x0, x1, (), (), (), x5, (), (), (), (), (), (), (), (), (), (), (), (), (), (), (), (), (), (), (), (), (), ()), ())
noncomputable def body_leqPairS_0 : Code := ((loopsIn 0 (bodyOf Try.f47)).getD 0 (0, .skip)).2
theorem R_leqPairS_0 (x0 : List (ByteArray × ByteArray)) (x1 : List (ByteArray × ByteArray)) (x5 : Int) : (T_leqPairS_0 x0 x1 x5).val (D := S_leqPairS_0.den) = .fail ∨ Runs sp_leqPairS_0 (pk_leqPairS_0 x0 x1 x5) (T_leqPairS_0 x0 x1 x5).val := by
  cases hc : (decide (0 ≤ x5) && (decide (x0.length = x1.length) && okL x0)) with
  | false => left; simp only [T_leqPairS_0, CT.val, hc, cond_false]
  | true =>
    right
    simp only [T_leqPairS_0, CT.val, hc, cond_true]
    simp only [Bool.and_eq_true, decide_eq_true_eq] at hc
    obtain ⟨i, rfl⟩ := Int.eq_ofNat_of_zero_le hc.1
    have hs := okL_le hc.2.2
    simp only [Int.toNat_natCast]
    refine Runs.scan (fun j => pk_leqPairS_0 x0 x1 (j : Int)) (x0.length) (f_leqPairS_0 x0 x1) (fun i hi => ?_) (fun i hi => ?_) ⟨_, _, _, rfl, by simp⟩ ⟨_, _, _, rfl, by simp⟩ _ _ rfl
    · 
      have h0a : decide ((i : Int) < ((x0.length : Nat) : Int)) = true := decide_eq_true (by omega)
      have h0b : decide (0 ≤ (i : Int) ∧ (i : Int) < ((x0.length : Nat) : Int)) = true := decide_eq_true (by omega)
      simp only [sp_leqPairS_0, st_leqPairS_0, RT.val, h0a, h0b, cond_true, wrapS i (by omega), Int.toNat_natCast]
      have h9 : decide (0 ≤ (i : Int) ∧ (i : Int) < ((x1.length : Nat) : Int)) = true := decide_eq_true (by omega)
      simp only [h9, cond_true]
      simp only [f_leqPairS_0]
      generalize (!(leqPair ((x0.getD i ((⟨#[]⟩ : ByteArray), (⟨#[]⟩ : ByteArray))).1) ((x0.getD i ((⟨#[]⟩ : ByteArray), (⟨#[]⟩ : ByteArray))).2) ((x1.getD i ((⟨#[]⟩ : ByteArray), (⟨#[]⟩ : ByteArray))).1) ((x1.getD i ((⟨#[]⟩ : ByteArray), (⟨#[]⟩ : ByteArray))).2))) = c
      cases c <;> rfl
    · have h1 : decide ((i : Int) < ((x0.length : Nat) : Int)) = false := decide_eq_false (by omega)
      simp only [sp_leqPairS_0, st_leqPairS_0, RT.val, h1, cond_false]
theorem rd_leqPairS_0 : ∀ d base killed, execC Try.prog tt S10 QF10 (fun _ _ => none) 0 body_leqPairS_0 (S_leqPairS_0.st d base killed) (fun e s' => some (e, S_leqPairS_0.cutE (kepts [4] [(0, [])]) e s')) = (sp_leqPairS_0 d).opt base killed := by
  intro d base killed
  kernel_rfl
abbrev say_leqPairS_0 : St → Option Tree := S_leqPairS_0.say [] (fun d => T_leqPairS_0 d.1.1 d.1.2.1 d.1.2.2.2.2.2.1)
theorem lw_leqPairS_0 : LoopWp Try.prog say_leqPairS_0 body_leqPairS_0 := SS.wp G10 (fun _ _ => none) (by rw [show loopsIn 0 body_leqPairS_0 = [] by kernel_rfl]; simp) S_leqPairS_0 (kepts [4] [(0, [])]) [] sp_leqPairS_0 rd_leqPairS_0 _ (fun d => R_leqPairS_0 d.1.1 d.1.2.1 d.1.2.2.2.2.2.1)
def leqPairS (a0 : List (ByteArray × ByteArray)) (a1 : List (ByteArray × ByteArray)) : Bool := (cond (((a0.length : Nat) : Int) != ((a1.length : Nat) : Int)) false (cond (allF (f_leqPairS_0 a0 a1) (a0.length - (0 : Int).toNat) (0 : Int).toNat) true false))
abbrev e_leqPairS (r : Bool) : AV × List AObj := ((.t true .bool r), [])
abbrev g_leqPairS : pshsDen P_leqPairS → AV × List AObj := fun d => e_leqPairS (leqPairS d.1 d.2.1)
def q_leqPairS (a0 : List (ByteArray × ByteArray)) (a1 : List (ByteArray × ByteArray)) : Bool := okL a0
abbrev pre_leqPairS : pshsDen P_leqPairS → Bool := fun d => q_leqPairS d.1 d.2.1
theorem runA_leqPairS (a0 : List (ByteArray × ByteArray)) (a1 : List (ByteArray × ByteArray)) (hp : (okL a0) = true) : runP true Try.prog tt S10 QF10 (fun b => match b with | 0 => say_leqPairS_0 | _ => fun _ => none) Try.f47 (argsMk P_leqPairS (a0, (a1, ()))) = some (g_leqPairS (a0, (a1, ()))) := by
  refine Eq.trans (b := (cond (((a0.length : Nat) : Int) != ((a1.length : Nat) : Int)) (some (e_leqPairS false)) (cond (decide (0 ≤ (0 : Int)) && (decide (a0.length = a1.length) && okL a0)) (cond (allF (f_leqPairS_0 a0 a1) (a0.length - (0 : Int).toNat) (0 : Int).toNat) (some (e_leqPairS true)) (some (e_leqPairS false))) none))) (by kernel_rfl) ?_
  exact (cnd (F := fun r => some (e_leqPairS r)) (fun _h => rfl) (fun _h => (cndT (by simp only [okL, Bool.and_eq_true, decide_eq_true_eq] at hp ⊢; simp at _h; exact ⟨Int.le_refl 0, by omega, hp⟩) (fun _h => (cnd (F := fun r => some (e_leqPairS r)) (fun _h => rfl) (fun _h => rfl))))))
theorem run_leqPairS : ∀ d, pre_leqPairS d = true → runP true Try.prog tt S10 QF10 (fun b => match b with | 0 => say_leqPairS_0 | _ => fun _ => none) Try.f47 (argsMk P_leqPairS d) = some (g_leqPairS d) := fun d hp => runA_leqPairS d.1 d.2.1 hp
theorem c_leqPairS : PContract Try.prog 47 (sumOf P_leqPairS pre_leqPairS g_leqPairS) := PContract.of_data true G10 (fn := Try.f47) (by kernel_rfl) (L := fun b => match b with | 0 => say_leqPairS_0 | _ => fun _ => none) (by rw [show loopsIn 0 (bodyOf Try.f47) = [(0, body_leqPairS_0)] by kernel_rfl]; intro p hp; simp only [List.mem_singleton] at hp; subst hp; exact lw_leqPairS_0) P_leqPairS pre_leqPairS g_leqPairS run_leqPairS
def S11 : Tab := Tab.add S10 47 (lift (sumOf P_leqPairS pre_leqPairS g_leqPairS))
def QF11 : FuncId → Bool := qadd QF10 47
theorem G11 : Good Try.prog tt S11 QF11 := G10.addQ c_leqPairS ⟨Try.f47, by kernel_rfl, by kernel_rfl, by kernel_rfl⟩ (fun _ => rfl)

/-! 27 loop.example/g00244/laws.eqShard -/
abbrev P_leqShard : List PSh := [.agg [(.int .i64), (.sl (.pair (.int .i64) (.pair (.int .i64) (.sl (.pair (.int .i64) (.pair .str .str)))))), (.int .i64), (.sl (.pair .str .str)), (.sl (.pair (.int .i64) (.pair (.int .i64) (.sl (.pair (.int .i64) (.pair .str .str))))))], .agg [(.int .i64), (.sl (.pair (.int .i64) (.pair (.int .i64) (.sl (.pair (.int .i64) (.pair .str .str)))))), (.int .i64), (.sl (.pair .str .str)), (.sl (.pair (.int .i64) (.pair (.int .i64) (.sl (.pair (.int .i64) (.pair .str .str))))))]]
def leqShard (a0 : Int) (a1 : List (Int × Int × List (Int × ByteArray × ByteArray))) (a2 : Int) (a3 : List (ByteArray × ByteArray)) (a4 : List (Int × Int × List (Int × ByteArray × ByteArray))) (a5 : Int) (a6 : List (Int × Int × List (Int × ByteArray × ByteArray))) (a7 : Int) (a8 : List (ByteArray × ByteArray)) (a9 : List (Int × Int × List (Int × ByteArray × ByteArray))) : Bool := (cond (a0 != a5) false (cond (!(leqRecS a1 a6)) false (cond (a2 != a7) false (cond (!(leqPairS a3 a8)) false (cond (!(leqRecS a4 a9)) false true)))))
abbrev e_leqShard (r : Bool) : AV × List AObj := ((.t true .bool r), [])
abbrev g_leqShard : pshsDen P_leqShard → AV × List AObj := fun d => e_leqShard (leqShard d.1.1 d.1.2.1 d.1.2.2.1 d.1.2.2.2.1 d.1.2.2.2.2.1 d.2.1.1 d.2.1.2.1 d.2.1.2.2.1 d.2.1.2.2.2.1 d.2.1.2.2.2.2.1)
def q_leqShard (a0 : Int) (a1 : List (Int × Int × List (Int × ByteArray × ByteArray))) (a2 : Int) (a3 : List (ByteArray × ByteArray)) (a4 : List (Int × Int × List (Int × ByteArray × ByteArray))) (a5 : Int) (a6 : List (Int × Int × List (Int × ByteArray × ByteArray))) (a7 : Int) (a8 : List (ByteArray × ByteArray)) (a9 : List (Int × Int × List (Int × ByteArray × ByteArray))) : Bool := (q_leqRecS a1 a6) && (q_leqPairS a3 a8) && (q_leqRecS a4 a9)
abbrev pre_leqShard : pshsDen P_leqShard → Bool := fun d => q_leqShard d.1.1 d.1.2.1 d.1.2.2.1 d.1.2.2.2.1 d.1.2.2.2.2.1 d.2.1.1 d.2.1.2.1 d.2.1.2.2.1 d.2.1.2.2.2.1 d.2.1.2.2.2.2.1
theorem runA_leqShard (a0 : Int) (a1 : List (Int × Int × List (Int × ByteArray × ByteArray))) (a2 : Int) (a3 : List (ByteArray × ByteArray)) (a4 : List (Int × Int × List (Int × ByteArray × ByteArray))) (a5 : Int) (a6 : List (Int × Int × List (Int × ByteArray × ByteArray))) (a7 : Int) (a8 : List (ByteArray × ByteArray)) (a9 : List (Int × Int × List (Int × ByteArray × ByteArray))) (hp : ((q_leqRecS a1 a6) && (q_leqPairS a3 a8) && (q_leqRecS a4 a9)) = true) : runP true Try.prog tt S11 QF11 (fun _ _ => none) Try.f27 (argsMk P_leqShard ((a0, (a1, (a2, (a3, (a4, ()))))), ((a5, (a6, (a7, (a8, (a9, ()))))), ()))) = some (g_leqShard ((a0, (a1, (a2, (a3, (a4, ()))))), ((a5, (a6, (a7, (a8, (a9, ()))))), ()))) := by
  refine Eq.trans (b := (cond (a0 != a5) (some (e_leqShard false)) (cond (q_leqRecS a1 a6) (cond (!(leqRecS a1 a6)) (some (e_leqShard false)) (cond (a2 != a7) (some (e_leqShard false)) (cond (q_leqPairS a3 a8) (cond (!(leqPairS a3 a8)) (some (e_leqShard false)) (cond (q_leqRecS a4 a9) (cond (!(leqRecS a4 a9)) (some (e_leqShard false)) (some (e_leqShard true))) none)) none))) none))) (by kernel_rfl) ?_
  exact (cnd (F := fun r => some (e_leqShard r)) (fun _h => rfl) (fun _h => (cndT (by first | rfl | decide | exact hp | (simp only [Bool.and_eq_true] at hp; simp only [hp]; done) | (simp [*]; done) | (simp [okL] at hp; simp [okL, MAXB]; omega) | (simp_all; done) | (simp at *; omega)) (fun _h => (cnd (F := fun r => some (e_leqShard r)) (fun _h => rfl) (fun _h => (cnd (F := fun r => some (e_leqShard r)) (fun _h => rfl) (fun _h => (cndT (by first | rfl | decide | exact hp | (simp only [Bool.and_eq_true] at hp; simp only [hp]; done) | (simp [*]; done) | (simp [okL] at hp; simp [okL, MAXB]; omega) | (simp_all; done) | (simp at *; omega)) (fun _h => (cnd (F := fun r => some (e_leqShard r)) (fun _h => rfl) (fun _h => (cndT (by first | rfl | decide | exact hp | (simp only [Bool.and_eq_true] at hp; simp only [hp]; done) | (simp [*]; done) | (simp [okL] at hp; simp [okL, MAXB]; omega) | (simp_all; done) | (simp at *; omega)) (fun _h => (cnd (F := fun r => some (e_leqShard r)) (fun _h => rfl) (fun _h => rfl))))))))))))))))
theorem run_leqShard : ∀ d, pre_leqShard d = true → runP true Try.prog tt S11 QF11 (fun _ _ => none) Try.f27 (argsMk P_leqShard d) = some (g_leqShard d) := fun d hp => runA_leqShard d.1.1 d.1.2.1 d.1.2.2.1 d.1.2.2.2.1 d.1.2.2.2.2.1 d.2.1.1 d.2.1.2.1 d.2.1.2.2.1 d.2.1.2.2.2.1 d.2.1.2.2.2.2.1 hp
theorem c_leqShard : PContract Try.prog 27 (sumOf P_leqShard pre_leqShard g_leqShard) := PContract.of_data true G11 (fn := Try.f27) (by kernel_rfl) (L := fun _ _ => none) (by rw [show loopsIn 0 (bodyOf Try.f27) = [] by kernel_rfl]; simp) P_leqShard pre_leqShard g_leqShard run_leqShard
def S12 : Tab := Tab.add S11 27 (lift (sumOf P_leqShard pre_leqShard g_leqShard))
def QF12 : FuncId → Bool := qadd QF11 27
theorem G12 : Good Try.prog tt S12 QF12 := G11.addQ c_leqShard ⟨Try.f27, by kernel_rfl, by kernel_rfl, by kernel_rfl⟩ (fun _ => rfl)

/-! 50 loop.example/g00244/laws.markOpS -/
abbrev P_lmarkOpS : List PSh := [.t (.sl (.pair (.int .i64) (.pair .str .str))), .t (.int .i64)]
abbrev S_lmarkOpS_0 : SS := ⟨[.t false (.sl (.pair (.int .i64) (.pair .str .str))), .t true (.int .i64), .junk, .junk, .junk, .t true (.int .i64), .junk, .junk, .junk, .junk, .junk, .junk, .junk, .junk, .junk, .junk, .junk, .junk, .junk, .junk, .junk, .junk, .junk, .junk, .junk, .junk, .junk, .junk, .junk, .junk, .junk, .junk, .junk, .junk, .junk, .junk], []⟩
abbrev E_lmarkOpS_0_0 : SS := ⟨[.junk, .t true (.int .i64), .junk, .junk, .junk, .junk, .junk, .junk, .junk, .junk, .junk, .junk, .junk, .junk, .junk, .junk, .junk, .junk, .junk, .junk, .junk, .junk, .junk, .junk, .junk, .junk, .junk, .junk, .junk, .junk, .junk, .junk, .junk, .junk, .junk, .junk], []⟩
def st_lmarkOpS_0 (x0 : List (Int × ByteArray × ByteArray)) (x1 : Int) (x5 : Int) : RT S_lmarkOpS_0.den := (.br (decide (x5 < ((x0.length : Nat) : Int))) (.br (decide (0 ≤ x5 ∧ x5 < ((x0.length : Nat) : Int))) .fail .fail) (.done (.exit 0) E_lmarkOpS_0_0 (((), x1, (), (), (), (), (), (), (), (), (), (), (), (), (), (), (), (), (), (), (), (), (), (), (), (), (), (), (), (), (), (), (), (), (), (), ()), ())))
def T_lmarkOpS_0 (x0 : List (Int × ByteArray × ByteArray)) (x1 : Int) (x5 : Int) : CT := (.br (decide (0 ≤ x5) && decide (x0.length = 0)) (.done (.exit 0) E_lmarkOpS_0_0 (((), x1, (), (), (), (), (), (), (), (), (), (), (), (), (), (), (), (), (), (), (), (), (), (), (), (), (), (), (), (), (), (), (), (), (), (), ()), ())) .fail)
abbrev sp_lmarkOpS_0 : S_lmarkOpS_0.den → RT S_lmarkOpS_0.den := fun d => st_lmarkOpS_0 d.1.1 d.1.2.1 d.1.2.2.2.2.2.1
abbrev pk_lmarkOpS_0 (x0 : List (Int × ByteArray × ByteArray)) (x1 : Int) (x5 : Int) : S_lmarkOpS_0.den := ((x0, x1, (), (), (), x5, (), (), (), (), (), (), (), (), (), (), (), (), (), (), (), (), (), (), (), (), (), (), (), (), (), (), (), (), (), (), ()), ())
noncomputable def body_lmarkOpS_0 : Code := ((loopsIn 0 (bodyOf Try.f50)).getD 0 (0, .skip)).2
theorem R_lmarkOpS_0 (x0 : List (Int × ByteArray × ByteArray)) (x1 : Int) (x5 : Int) : (T_lmarkOpS_0 x0 x1 x5).val (D := S_lmarkOpS_0.den) = .fail ∨ Runs sp_lmarkOpS_0 (pk_lmarkOpS_0 x0 x1 x5) (T_lmarkOpS_0 x0 x1 x5).val := by
  cases hc : (decide (0 ≤ x5) && decide (x0.length = 0)) with
  | false => left; simp only [T_lmarkOpS_0, CT.val, hc, cond_false]
  | true =>
    right
    simp only [T_lmarkOpS_0, CT.val, hc, cond_true]
    simp only [Bool.and_eq_true, decide_eq_true_eq] at hc
    have h1 : decide (x5 < ((x0.length : Nat) : Int)) = false := decide_eq_false (by omega)
    exact .done (by simp) (by simp only [sp_lmarkOpS_0, st_lmarkOpS_0, RT.val, h1, cond_false])
theorem rd_lmarkOpS_0 : ∀ d base killed, execC Try.prog tt S12 QF12 (fun _ _ => none) 0 body_lmarkOpS_0 (S_lmarkOpS_0.st d base killed) (fun e s' => some (e, S_lmarkOpS_0.cutE (kepts [] [(0, [1])]) e s')) = (sp_lmarkOpS_0 d).opt base killed := by
  intro d base killed
  kernel_rfl
abbrev say_lmarkOpS_0 : St → Option Tree := S_lmarkOpS_0.say [] (fun d => T_lmarkOpS_0 d.1.1 d.1.2.1 d.1.2.2.2.2.2.1)
theorem lw_lmarkOpS_0 : LoopWp Try.prog say_lmarkOpS_0 body_lmarkOpS_0 := SS.wp G12 (fun _ _ => none) (by rw [show loopsIn 0 body_lmarkOpS_0 = [] by kernel_rfl]; simp) S_lmarkOpS_0 (kepts [] [(0, [1])]) [] sp_lmarkOpS_0 rd_lmarkOpS_0 _ (fun d => R_lmarkOpS_0 d.1.1 d.1.2.1 d.1.2.2.2.2.2.1)
def lmarkOpS (a0 : List (Int × ByteArray × ByteArray)) (a1 : Int) : Int := a1
abbrev e_lmarkOpS (r : Int) : AV × List AObj := ((.t true (.int .i64) r), [])
abbrev g_lmarkOpS : pshsDen P_lmarkOpS → AV × List AObj := fun d => e_lmarkOpS (lmarkOpS d.1 d.2.1)
def q_lmarkOpS (a0 : List (Int × ByteArray × ByteArray)) (a1 : Int) : Bool := decide (a0.length = 0)
abbrev pre_lmarkOpS : pshsDen P_lmarkOpS → Bool := fun d => q_lmarkOpS d.1 d.2.1
theorem runA_lmarkOpS (a0 : List (Int × ByteArray × ByteArray)) (a1 : Int) (hp : (decide (a0.length = 0)) = true) : runP true Try.prog tt S12 QF12 (fun b => match b with | 0 => say_lmarkOpS_0 | _ => fun _ => none) Try.f50 (argsMk P_lmarkOpS (a0, (a1, ()))) = some (g_lmarkOpS (a0, (a1, ()))) := by
  refine Eq.trans (b := (cond (decide (0 ≤ (0 : Int)) && decide (a0.length = 0)) (some (e_lmarkOpS a1)) none)) (by kernel_rfl) ?_
  exact (cndT (by simpa using hp) (fun _h => rfl))
theorem run_lmarkOpS : ∀ d, pre_lmarkOpS d = true → runP true Try.prog tt S12 QF12 (fun b => match b with | 0 => say_lmarkOpS_0 | _ => fun _ => none) Try.f50 (argsMk P_lmarkOpS d) = some (g_lmarkOpS d) := fun d hp => runA_lmarkOpS d.1 d.2.1 hp
theorem c_lmarkOpS : PContract Try.prog 50 (sumOf P_lmarkOpS pre_lmarkOpS g_lmarkOpS) := PContract.of_data true G12 (fn := Try.f50) (by kernel_rfl) (L := fun b => match b with | 0 => say_lmarkOpS_0 | _ => fun _ => none) (by rw [show loopsIn 0 (bodyOf Try.f50) = [(0, body_lmarkOpS_0)] by kernel_rfl]; intro p hp; simp only [List.mem_singleton] at hp; subst hp; exact lw_lmarkOpS_0) P_lmarkOpS pre_lmarkOpS g_lmarkOpS run_lmarkOpS
def S13 : Tab := Tab.add S12 50 (lift (sumOf P_lmarkOpS pre_lmarkOpS g_lmarkOpS))
def QF13 : FuncId → Bool := qadd QF12 50
theorem G13 : Good Try.prog tt S13 QF13 := G12.addQ c_lmarkOpS ⟨Try.f50, by kernel_rfl, by kernel_rfl, by kernel_rfl⟩ (fun _ => rfl)

/-! 87 loop.example/g00244/laws.markRecS -/
abbrev P_lmarkRecS : List PSh := [.t (.sl (.pair (.int .i64) (.pair (.int .i64) (.sl (.pair (.int .i64) (.pair .str .str)))))), .t (.int .i64)]
abbrev S_lmarkRecS_0 : SS := ⟨[.t false (.sl (.pair (.int .i64) (.pair (.int .i64) (.sl (.pair (.int .i64) (.pair .str .str)))))), .t true (.int .i64), .junk, .junk, .junk, .t true (.int .i64), .junk, .junk, .junk, .junk, .junk, .junk, .junk, .junk, .junk, .junk, .junk, .junk, .junk, .junk, .junk, .junk, .junk, .junk, .junk, .junk, .junk, .junk, .junk, .junk, .junk, .junk, .junk, .junk], []⟩
abbrev E_lmarkRecS_0_0 : SS := ⟨[.junk, .t true (.int .i64), .junk, .junk, .junk, .junk, .junk, .junk, .junk, .junk, .junk, .junk, .junk, .junk, .junk, .junk, .junk, .junk, .junk, .junk, .junk, .junk, .junk, .junk, .junk, .junk, .junk, .junk, .junk, .junk, .junk, .junk, .junk, .junk], []⟩
def st_lmarkRecS_0 (x0 : List (Int × Int × List (Int × ByteArray × ByteArray))) (x1 : Int) (x5 : Int) : RT S_lmarkRecS_0.den := (.br (decide (x5 < ((x0.length : Nat) : Int))) (.br (decide (0 ≤ x5 ∧ x5 < ((x0.length : Nat) : Int))) .fail .fail) (.done (.exit 0) E_lmarkRecS_0_0 (((), x1, (), (), (), (), (), (), (), (), (), (), (), (), (), (), (), (), (), (), (), (), (), (), (), (), (), (), (), (), (), (), (), (), ()), ())))
def T_lmarkRecS_0 (x0 : List (Int × Int × List (Int × ByteArray × ByteArray))) (x1 : Int) (x5 : Int) : CT := (.br (decide (0 ≤ x5) && decide (x0.length = 0)) (.done (.exit 0) E_lmarkRecS_0_0 (((), x1, (), (), (), (), (), (), (), (), (), (), (), (), (), (), (), (), (), (), (), (), (), (), (), (), (), (), (), (), (), (), (), (), ()), ())) .fail)
abbrev sp_lmarkRecS_0 : S_lmarkRecS_0.den → RT S_lmarkRecS_0.den := fun d => st_lmarkRecS_0 d.1.1 d.1.2.1 d.1.2.2.2.2.2.1
abbrev pk_lmarkRecS_0 (x0 : List (Int × Int × List (Int × ByteArray × ByteArray))) (x1 : Int) (x5 : Int) : S_lmarkRecS_0.den := ((x0, x1, (), (), (), x5, (), (), (), (), (), (), (), (), (), (), (), (), (), (), (), (), (), (), (), (), (), (), (), (), (), (), (), (), ()), ())
noncomputable def body_lmarkRecS_0 : Code := ((loopsIn 0 (bodyOf Try.f87)).getD 0 (0, .skip)).2
theorem R_lmarkRecS_0 (x0 : List (Int × Int × List (Int × ByteArray × ByteArray))) (x1 : Int) (x5 : Int) : (T_lmarkRecS_0 x0 x1 x5).val (D := S_lmarkRecS_0.den) = .fail ∨ Runs sp_lmarkRecS_0 (pk_lmarkRecS_0 x0 x1 x5) (T_lmarkRecS_0 x0 x1 x5).val := by
  cases hc : (decide (0 ≤ x5) && decide (x0.length = 0)) with
  | false => left; simp only [T_lmarkRecS_0, CT.val, hc, cond_false]
  | true =>
    right
    simp only [T_lmarkRecS_0, CT.val, hc, cond_true]
    simp only [Bool.and_eq_true, decide_eq_true_eq] at hc
    have h1 : decide (x5 < ((x0.length : Nat) : Int)) = false := decide_eq_false (by omega)
    exact .done (by simp) (by simp only [sp_lmarkRecS_0, st_lmarkRecS_0, RT.val, h1, cond_false])
theorem rd_lmarkRecS_0 : ∀ d base killed, execC Try.prog tt S13 QF13 (fun _ _ => none) 0 body_lmarkRecS_0 (S_lmarkRecS_0.st d base killed) (fun e s' => some (e, S_lmarkRecS_0.cutE (kepts [] [(0, [1])]) e s')) = (sp_lmarkRecS_0 d).opt base killed := by
  intro d base killed
  kernel_rfl
abbrev say_lmarkRecS_0 : St → Option Tree := S_lmarkRecS_0.say [] (fun d => T_lmarkRecS_0 d.1.1 d.1.2.1 d.1.2.2.2.2.2.1)
theorem lw_lmarkRecS_0 : LoopWp Try.prog say_lmarkRecS_0 body_lmarkRecS_0 := SS.wp G13 (fun _ _ => none) (by rw [show loopsIn 0 body_lmarkRecS_0 = [] by kernel_rfl]; simp) S_lmarkRecS_0 (kepts [] [(0, [1])]) [] sp_lmarkRecS_0 rd_lmarkRecS_0 _ (fun d => R_lmarkRecS_0 d.1.1 d.1.2.1 d.1.2.2.2.2.2.1)
def lmarkRecS (a0 : List (Int × Int × List (Int × ByteArray × ByteArray))) (a1 : Int) : Int := a1
abbrev e_lmarkRecS (r : Int) : AV × List AObj := ((.t true (.int .i64) r), [])
abbrev g_lmarkRecS : pshsDen P_lmarkRecS → AV × List AObj := fun d => e_lmarkRecS (lmarkRecS d.1 d.2.1)
def q_lmarkRecS (a0 : List (Int × Int × List (Int × ByteArray × ByteArray))) (a1 : Int) : Bool := decide (a0.length = 0)
abbrev pre_lmarkRecS : pshsDen P_lmarkRecS → Bool := fun d => q_lmarkRecS d.1 d.2.1
theorem runA_lmarkRecS (a0 : List (Int × Int × List (Int × ByteArray × ByteArray))) (a1 : Int) (hp : (decide (a0.length = 0)) = true) : runP true Try.prog tt S13 QF13 (fun b => match b with | 0 => say_lmarkRecS_0 | _ => fun _ => none) Try.f87 (argsMk P_lmarkRecS (a0, (a1, ()))) = some (g_lmarkRecS (a0, (a1, ()))) := by
  refine Eq.trans (b := (cond (decide (0 ≤ (0 : Int)) && decide (a0.length = 0)) (some (e_lmarkRecS a1)) none)) (by kernel_rfl) ?_
  exact (cndT (by simpa using hp) (fun _h => rfl))
theorem run_lmarkRecS : ∀ d, pre_lmarkRecS d = true → runP true Try.prog tt S13 QF13 (fun b => match b with | 0 => say_lmarkRecS_0 | _ => fun _ => none) Try.f87 (argsMk P_lmarkRecS d) = some (g_lmarkRecS d) := fun d hp => runA_lmarkRecS d.1 d.2.1 hp
theorem c_lmarkRecS : PContract Try.prog 87 (sumOf P_lmarkRecS pre_lmarkRecS g_lmarkRecS) := PContract.of_data true G13 (fn := Try.f87) (by kernel_rfl) (L := fun b => match b with | 0 => say_lmarkRecS_0 | _ => fun _ => none) (by rw [show loopsIn 0 (bodyOf Try.f87) = [(0, body_lmarkRecS_0)] by kernel_rfl]; intro p hp; simp only [List.mem_singleton] at hp; subst hp; exact lw_lmarkRecS_0) P_lmarkRecS pre_lmarkRecS g_lmarkRecS run_lmarkRecS
def S14 : Tab := Tab.add S13 87 (lift (sumOf P_lmarkRecS pre_lmarkRecS g_lmarkRecS))
def QF14 : FuncId → Bool := qadd QF13 87
theorem G14 : Good Try.prog tt S14 QF14 := G13.addQ c_lmarkRecS ⟨Try.f87, by kernel_rfl, by kernel_rfl, by kernel_rfl⟩ (fun _ => rfl)

/-! 49 loop.example/g00244/laws.markPairS -/
abbrev P_lmarkPairS : List PSh := [.t (.sl (.pair .str .str)), .t (.int .i64)]
abbrev S_lmarkPairS_0 : SS := ⟨[.t false (.sl (.pair .str .str)), .t true (.int .i64), .junk, .junk, .junk, .t true (.int .i64), .junk, .junk, .junk, .junk, .junk, .junk, .junk, .junk, .junk, .junk, .junk, .junk, .junk, .junk, .junk, .junk, .junk, .junk, .junk, .junk, .junk, .junk, .junk], []⟩
abbrev E_lmarkPairS_0_0 : SS := ⟨[.junk, .t true (.int .i64), .junk, .junk, .junk, .junk, .junk, .junk, .junk, .junk, .junk, .junk, .junk, .junk, .junk, .junk, .junk, .junk, .junk, .junk, .junk, .junk, .junk, .junk, .junk, .junk, .junk, .junk, .junk], []⟩
def st_lmarkPairS_0 (x0 : List (ByteArray × ByteArray)) (x1 : Int) (x5 : Int) : RT S_lmarkPairS_0.den := (.br (decide (x5 < ((x0.length : Nat) : Int))) .fail (.done (.exit 0) E_lmarkPairS_0_0 (((), x1, (), (), (), (), (), (), (), (), (), (), (), (), (), (), (), (), (), (), (), (), (), (), (), (), (), (), (), ()), ())))
def T_lmarkPairS_0 (x0 : List (ByteArray × ByteArray)) (x1 : Int) (x5 : Int) : CT := (.br (decide (0 ≤ x5) && decide (x0.length = 0)) (.done (.exit 0) E_lmarkPairS_0_0 (((), x1, (), (), (), (), (), (), (), (), (), (), (), (), (), (), (), (), (), (), (), (), (), (), (), (), (), (), (), ()), ())) .fail)
abbrev sp_lmarkPairS_0 : S_lmarkPairS_0.den → RT S_lmarkPairS_0.den := fun d => st_lmarkPairS_0 d.1.1 d.1.2.1 d.1.2.2.2.2.2.1
abbrev pk_lmarkPairS_0 (x0 : List (ByteArray × ByteArray)) (x1 : Int) (x5 : Int) : S_lmarkPairS_0.den := ((x0, x1, (), (), (), x5, (), (), (), (), (), (), (), (), (), (), (), (), (), (), (), (), (), (), (), (), (), (), (), ()), ())
noncomputable def body_lmarkPairS_0 : Code := ((loopsIn 0 (bodyOf Try.f49)).getD 0 (0, .skip)).2
theorem R_lmarkPairS_0 (x0 : List (ByteArray × ByteArray)) (x1 : Int) (x5 : Int) : (T_lmarkPairS_0 x0 x1 x5).val (D := S_lmarkPairS_0.den) = .fail ∨ Runs sp_lmarkPairS_0 (pk_lmarkPairS_0 x0 x1 x5) (T_lmarkPairS_0 x0 x1 x5).val := by
  cases hc : (decide (0 ≤ x5) && decide (x0.length = 0)) with
  | false => left; simp only [T_lmarkPairS_0, CT.val, hc, cond_false]
  | true =>
    right
    simp only [T_lmarkPairS_0, CT.val, hc, cond_true]
    simp only [Bool.and_eq_true, decide_eq_true_eq] at hc
    have h1 : decide (x5 < ((x0.length : Nat) : Int)) = false := decide_eq_false (by omega)
    exact .done (by simp) (by simp only [sp_lmarkPairS_0, st_lmarkPairS_0, RT.val, h1, cond_false])
theorem rd_lmarkPairS_0 : ∀ d base killed, execC Try.prog tt S14 QF14 (fun _ _ => none) 0 body_lmarkPairS_0 (S_lmarkPairS_0.st d base killed) (fun e s' => some (e, S_lmarkPairS_0.cutE (kepts [] [(0, [1])]) e s')) = (sp_lmarkPairS_0 d).opt base killed := by
  intro d base killed
  kernel_rfl
abbrev say_lmarkPairS_0 : St → Option Tree := S_lmarkPairS_0.say [] (fun d => T_lmarkPairS_0 d.1.1 d.1.2.1 d.1.2.2.2.2.2.1)
theorem lw_lmarkPairS_0 : LoopWp Try.prog say_lmarkPairS_0 body_lmarkPairS_0 := SS.wp G14 (fun _ _ => none) (by rw [show loopsIn 0 body_lmarkPairS_0 = [] by kernel_rfl]; simp) S_lmarkPairS_0 (kepts [] [(0, [1])]) [] sp_lmarkPairS_0 rd_lmarkPairS_0 _ (fun d => R_lmarkPairS_0 d.1.1 d.1.2.1 d.1.2.2.2.2.2.1)
def lmarkPairS (a0 : List (ByteArray × ByteArray)) (a1 : Int) : Int := a1
abbrev e_lmarkPairS (r : Int) : AV × List AObj := ((.t true (.int .i64) r), [])
abbrev g_lmarkPairS : pshsDen P_lmarkPairS → AV × List AObj := fun d => e_lmarkPairS (lmarkPairS d.1 d.2.1)
def q_lmarkPairS (a0 : List (ByteArray × ByteArray)) (a1 : Int) : Bool := decide (a0.length = 0)
abbrev pre_lmarkPairS : pshsDen P_lmarkPairS → Bool := fun d => q_lmarkPairS d.1 d.2.1
theorem runA_lmarkPairS (a0 : List (ByteArray × ByteArray)) (a1 : Int) (hp : (decide (a0.length = 0)) = true) : runP true Try.prog tt S14 QF14 (fun b => match b with | 0 => say_lmarkPairS_0 | _ => fun _ => none) Try.f49 (argsMk P_lmarkPairS (a0, (a1, ()))) = some (g_lmarkPairS (a0, (a1, ()))) := by
  refine Eq.trans (b := (cond (decide (0 ≤ (0 : Int)) && decide (a0.length = 0)) (some (e_lmarkPairS a1)) none)) (by kernel_rfl) ?_
  exact (cndT (by simpa using hp) (fun _h => rfl))
theorem run_lmarkPairS : ∀ d, pre_lmarkPairS d = true → runP true Try.prog tt S14 QF14 (fun b => match b with | 0 => say_lmarkPairS_0 | _ => fun _ => none) Try.f49 (argsMk P_lmarkPairS d) = some (g_lmarkPairS d) := fun d hp => runA_lmarkPairS d.1 d.2.1 hp
theorem c_lmarkPairS : PContract Try.prog 49 (sumOf P_lmarkPairS pre_lmarkPairS g_lmarkPairS) := PContract.of_data true G14 (fn := Try.f49) (by kernel_rfl) (L := fun b => match b with | 0 => say_lmarkPairS_0 | _ => fun _ => none) (by rw [show loopsIn 0 (bodyOf Try.f49) = [(0, body_lmarkPairS_0)] by kernel_rfl]; intro p hp; simp only [List.mem_singleton] at hp; subst hp; exact lw_lmarkPairS_0) P_lmarkPairS pre_lmarkPairS g_lmarkPairS run_lmarkPairS
def S15 : Tab := Tab.add S14 49 (lift (sumOf P_lmarkPairS pre_lmarkPairS g_lmarkPairS))
def QF15 : FuncId → Bool := qadd QF14 49
theorem G15 : Good Try.prog tt S15 QF15 := G14.addQ c_lmarkPairS ⟨Try.f49, by kernel_rfl, by kernel_rfl, by kernel_rfl⟩ (fun _ => rfl)

/-! 28 loop.example/g00244/laws.markShard -/
abbrev P_lmarkShard : List PSh := [.agg [(.int .i64), (.sl (.pair (.int .i64) (.pair (.int .i64) (.sl (.pair (.int .i64) (.pair .str .str)))))), (.int .i64), (.sl (.pair .str .str)), (.sl (.pair (.int .i64) (.pair (.int .i64) (.sl (.pair (.int .i64) (.pair .str .str))))))], .t (.int .i64)]
def lmarkShard (a0 : Int) (a1 : List (Int × Int × List (Int × ByteArray × ByteArray))) (a2 : Int) (a3 : List (ByteArray × ByteArray)) (a4 : List (Int × Int × List (Int × ByteArray × ByteArray))) (a5 : Int) : Int := (lmarkRecS a4 (lmarkPairS a3 (lmarkRecS a1 a5)))
abbrev e_lmarkShard (r : Int) : AV × List AObj := ((.t true (.int .i64) r), [])
abbrev g_lmarkShard : pshsDen P_lmarkShard → AV × List AObj := fun d => e_lmarkShard (lmarkShard d.1.1 d.1.2.1 d.1.2.2.1 d.1.2.2.2.1 d.1.2.2.2.2.1 d.2.1)
def q_lmarkShard (a0 : Int) (a1 : List (Int × Int × List (Int × ByteArray × ByteArray))) (a2 : Int) (a3 : List (ByteArray × ByteArray)) (a4 : List (Int × Int × List (Int × ByteArray × ByteArray))) (a5 : Int) : Bool := (q_lmarkRecS a1 a5) && (q_lmarkPairS a3 (lmarkRecS a1 a5)) && (q_lmarkRecS a4 (lmarkPairS a3 (lmarkRecS a1 a5)))
abbrev pre_lmarkShard : pshsDen P_lmarkShard → Bool := fun d => q_lmarkShard d.1.1 d.1.2.1 d.1.2.2.1 d.1.2.2.2.1 d.1.2.2.2.2.1 d.2.1
theorem runA_lmarkShard (a0 : Int) (a1 : List (Int × Int × List (Int × ByteArray × ByteArray))) (a2 : Int) (a3 : List (ByteArray × ByteArray)) (a4 : List (Int × Int × List (Int × ByteArray × ByteArray))) (a5 : Int) (hp : ((q_lmarkRecS a1 a5) && (q_lmarkPairS a3 (lmarkRecS a1 a5)) && (q_lmarkRecS a4 (lmarkPairS a3 (lmarkRecS a1 a5)))) = true) : runP true Try.prog tt S15 QF15 (fun _ _ => none) Try.f28 (argsMk P_lmarkShard ((a0, (a1, (a2, (a3, (a4, ()))))), (a5, ()))) = some (g_lmarkShard ((a0, (a1, (a2, (a3, (a4, ()))))), (a5, ()))) := by
  refine Eq.trans (b := (cond (q_lmarkRecS a1 a5) (cond (q_lmarkPairS a3 (lmarkRecS a1 a5)) (cond (q_lmarkRecS a4 (lmarkPairS a3 (lmarkRecS a1 a5))) (some (e_lmarkShard (lmarkRecS a4 (lmarkPairS a3 (lmarkRecS a1 a5))))) none) none) none)) (by kernel_rfl) ?_
  exact (cndT (by first | rfl | decide | exact hp | (simp only [Bool.and_eq_true] at hp; simp only [hp]; done) | (simp [*]; done) | (simp [okL] at hp; simp [okL, MAXB]; omega) | (simp_all; done) | (simp at *; omega)) (fun _h => (cndT (by first | rfl | decide | exact hp | (simp only [Bool.and_eq_true] at hp; simp only [hp]; done) | (simp [*]; done) | (simp [okL] at hp; simp [okL, MAXB]; omega) | (simp_all; done) | (simp at *; omega)) (fun _h => (cndT (by first | rfl | decide | exact hp | (simp only [Bool.and_eq_true] at hp; simp only [hp]; done) | (simp [*]; done) | (simp [okL] at hp; simp [okL, MAXB]; omega) | (simp_all; done) | (simp at *; omega)) (fun _h => rfl))))))
theorem run_lmarkShard : ∀ d, pre_lmarkShard d = true → runP true Try.prog tt S15 QF15 (fun _ _ => none) Try.f28 (argsMk P_lmarkShard d) = some (g_lmarkShard d) := fun d hp => runA_lmarkShard d.1.1 d.1.2.1 d.1.2.2.1 d.1.2.2.2.1 d.1.2.2.2.2.1 d.2.1 hp
theorem c_lmarkShard : PContract Try.prog 28 (sumOf P_lmarkShard pre_lmarkShard g_lmarkShard) := PContract.of_data true G15 (fn := Try.f28) (by kernel_rfl) (L := fun _ _ => none) (by rw [show loopsIn 0 (bodyOf Try.f28) = [] by kernel_rfl]; simp) P_lmarkShard pre_lmarkShard g_lmarkShard run_lmarkShard
def S16 : Tab := Tab.add S15 28 (lift (sumOf P_lmarkShard pre_lmarkShard g_lmarkShard))
def QF16 : FuncId → Bool := qadd QF15 28
theorem G16 : Good Try.prog tt S16 QF16 := G15.addQ c_lmarkShard ⟨Try.f28, by kernel_rfl, by kernel_rfl, by kernel_rfl⟩ (fun _ => rfl)

/-! 128 loop.example/g00244/laws.heldOpS -/
abbrev P_lheldOpS : List PSh := [.t (.sl (.pair (.int .i64) (.pair .str .str))), .t (.int .i64)]
abbrev S_lheldOpS_0 : SS := ⟨[.t false (.sl (.pair (.int .i64) (.pair .str .str))), .t true (.int .i64), .junk, .junk, .junk, .t true (.int .i64), .junk, .junk, .junk, .junk, .junk, .junk, .junk, .junk, .junk, .junk, .junk, .junk, .junk, .junk, .junk, .junk, .junk, .junk, .junk, .junk, .junk, .junk, .junk, .junk, .junk, .junk, .junk, .junk, .junk, .junk, .junk, .junk, .junk, .junk, .junk, .junk], []⟩
abbrev E_lheldOpS_0_0 : SS := ⟨[.junk, .junk, .junk, .junk, .t true (.int .i64), .junk, .junk, .junk, .junk, .junk, .junk, .junk, .junk, .junk, .junk, .junk, .junk, .junk, .junk, .junk, .junk, .junk, .junk, .junk, .junk, .junk, .junk, .junk, .junk, .junk, .junk, .junk, .junk, .junk, .junk, .junk, .junk, .junk, .junk, .junk, .junk, .junk], []⟩
abbrev E_lheldOpS_0_1 : SS := ⟨[.junk, .t true (.int .i64), .junk, .junk, .junk, .junk, .junk, .junk, .junk, .junk, .junk, .junk, .junk, .junk, .junk, .junk, .junk, .junk, .junk, .junk, .junk, .junk, .junk, .junk, .junk, .junk, .junk, .junk, .junk, .junk, .junk, .junk, .junk, .junk, .junk, .junk, .junk, .junk, .junk, .junk, .junk, .junk], []⟩
def st_lheldOpS_0 (x0 : List (Int × ByteArray × ByteArray)) (x1 : Int) (x5 : Int) : RT S_lheldOpS_0.den := (.br (decide (x5 < ((x0.length : Nat) : Int))) (.br (decide (0 ≤ x5 ∧ x5 < ((x0.length : Nat) : Int))) (.br (((x0.getD x5.toNat ((0 : Int), ((⟨#[]⟩ : ByteArray), (⟨#[]⟩ : ByteArray)))).1) != x1) (.done .ret E_lheldOpS_0_0 (((), (), (), (), (-1 : Int), (), (), (), (), (), (), (), (), (), (), (), (), (), (), (), (), (), (), (), (), (), (), (), (), (), (), (), (), (), (), (), (), (), (), (), (), (), ()), ())) .fail) .fail) (.done (.exit 0) E_lheldOpS_0_1 (((), x1, (), (), (), (), (), (), (), (), (), (), (), (), (), (), (), (), (), (), (), (), (), (), (), (), (), (), (), (), (), (), (), (), (), (), (), (), (), (), (), (), ()), ())))
def T_lheldOpS_0 (x0 : List (Int × ByteArray × ByteArray)) (x1 : Int) (x5 : Int) : CT := (.br (decide (0 ≤ x5) && decide (x0.length = 0)) (.done (.exit 0) E_lheldOpS_0_1 (((), x1, (), (), (), (), (), (), (), (), (), (), (), (), (), (), (), (), (), (), (), (), (), (), (), (), (), (), (), (), (), (), (), (), (), (), (), (), (), (), (), (), ()), ())) .fail)
abbrev sp_lheldOpS_0 : S_lheldOpS_0.den → RT S_lheldOpS_0.den := fun d => st_lheldOpS_0 d.1.1 d.1.2.1 d.1.2.2.2.2.2.1
abbrev pk_lheldOpS_0 (x0 : List (Int × ByteArray × ByteArray)) (x1 : Int) (x5 : Int) : S_lheldOpS_0.den := ((x0, x1, (), (), (), x5, (), (), (), (), (), (), (), (), (), (), (), (), (), (), (), (), (), (), (), (), (), (), (), (), (), (), (), (), (), (), (), (), (), (), (), (), ()), ())
noncomputable def body_lheldOpS_0 : Code := ((loopsIn 0 (bodyOf Try.f128)).getD 0 (0, .skip)).2
theorem R_lheldOpS_0 (x0 : List (Int × ByteArray × ByteArray)) (x1 : Int) (x5 : Int) : (T_lheldOpS_0 x0 x1 x5).val (D := S_lheldOpS_0.den) = .fail ∨ Runs sp_lheldOpS_0 (pk_lheldOpS_0 x0 x1 x5) (T_lheldOpS_0 x0 x1 x5).val := by
  cases hc : (decide (0 ≤ x5) && decide (x0.length = 0)) with
  | false => left; simp only [T_lheldOpS_0, CT.val, hc, cond_false]
  | true =>
    right
    simp only [T_lheldOpS_0, CT.val, hc, cond_true]
    simp only [Bool.and_eq_true, decide_eq_true_eq] at hc
    have h1 : decide (x5 < ((x0.length : Nat) : Int)) = false := decide_eq_false (by omega)
    exact .done (by simp) (by simp only [sp_lheldOpS_0, st_lheldOpS_0, RT.val, h1, cond_false])
theorem rd_lheldOpS_0 : ∀ d base killed, execC Try.prog tt S16 QF16 (fun _ _ => none) 0 body_lheldOpS_0 (S_lheldOpS_0.st d base killed) (fun e s' => some (e, S_lheldOpS_0.cutE (kepts [4] [(0, [1])]) e s')) = (sp_lheldOpS_0 d).opt base killed := by
  intro d base killed
  kernel_rfl
abbrev say_lheldOpS_0 : St → Option Tree := S_lheldOpS_0.say [] (fun d => T_lheldOpS_0 d.1.1 d.1.2.1 d.1.2.2.2.2.2.1)
theorem lw_lheldOpS_0 : LoopWp Try.prog say_lheldOpS_0 body_lheldOpS_0 := SS.wp G16 (fun _ _ => none) (by rw [show loopsIn 0 body_lheldOpS_0 = [] by kernel_rfl]; simp) S_lheldOpS_0 (kepts [4] [(0, [1])]) [] sp_lheldOpS_0 rd_lheldOpS_0 _ (fun d => R_lheldOpS_0 d.1.1 d.1.2.1 d.1.2.2.2.2.2.1)
def lheldOpS (a0 : List (Int × ByteArray × ByteArray)) (a1 : Int) : Int := a1
abbrev e_lheldOpS (r : Int) : AV × List AObj := ((.t true (.int .i64) r), [])
abbrev g_lheldOpS : pshsDen P_lheldOpS → AV × List AObj := fun d => e_lheldOpS (lheldOpS d.1 d.2.1)
def q_lheldOpS (a0 : List (Int × ByteArray × ByteArray)) (a1 : Int) : Bool := decide (a0.length = 0)
abbrev pre_lheldOpS : pshsDen P_lheldOpS → Bool := fun d => q_lheldOpS d.1 d.2.1
theorem runA_lheldOpS (a0 : List (Int × ByteArray × ByteArray)) (a1 : Int) (hp : (decide (a0.length = 0)) = true) : runP true Try.prog tt S16 QF16 (fun b => match b with | 0 => say_lheldOpS_0 | _ => fun _ => none) Try.f128 (argsMk P_lheldOpS (a0, (a1, ()))) = some (g_lheldOpS (a0, (a1, ()))) := by
  refine Eq.trans (b := (cond (decide (0 ≤ (0 : Int)) && decide (a0.length = 0)) (some (e_lheldOpS a1)) none)) (by kernel_rfl) ?_
  exact (cndT (by simpa using hp) (fun _h => rfl))
theorem run_lheldOpS : ∀ d, pre_lheldOpS d = true → runP true Try.prog tt S16 QF16 (fun b => match b with | 0 => say_lheldOpS_0 | _ => fun _ => none) Try.f128 (argsMk P_lheldOpS d) = some (g_lheldOpS d) := fun d hp => runA_lheldOpS d.1 d.2.1 hp
theorem c_lheldOpS : PContract Try.prog 128 (sumOf P_lheldOpS pre_lheldOpS g_lheldOpS) := PContract.of_data true G16 (fn := Try.f128) (by kernel_rfl) (L := fun b => match b with | 0 => say_lheldOpS_0 | _ => fun _ => none) (by rw [show loopsIn 0 (bodyOf Try.f128) = [(0, body_lheldOpS_0)] by kernel_rfl]; intro p hp; simp only [List.mem_singleton] at hp; subst hp; exact lw_lheldOpS_0) P_lheldOpS pre_lheldOpS g_lheldOpS run_lheldOpS
def S17 : Tab := Tab.add S16 128 (lift (sumOf P_lheldOpS pre_lheldOpS g_lheldOpS))
def QF17 : FuncId → Bool := qadd QF16 128
theorem G17 : Good Try.prog tt S17 QF17 := G16.addQ c_lheldOpS ⟨Try.f128, by kernel_rfl, by kernel_rfl, by kernel_rfl⟩ (fun _ => rfl)

/-! 88 loop.example/g00244/laws.heldRecS -/
abbrev P_lheldRecS : List PSh := [.t (.sl (.pair (.int .i64) (.pair (.int .i64) (.sl (.pair (.int .i64) (.pair .str .str)))))), .t (.int .i64)]
abbrev S_lheldRecS_0 : SS := ⟨[.t false (.sl (.pair (.int .i64) (.pair (.int .i64) (.sl (.pair (.int .i64) (.pair .str .str)))))), .t true (.int .i64), .junk, .junk, .junk, .t true (.int .i64), .junk, .junk, .junk, .junk, .junk, .junk, .junk, .junk, .junk, .junk, .junk, .junk, .junk, .junk, .junk, .junk, .junk, .junk, .junk, .junk, .junk, .junk, .junk, .junk, .junk, .junk, .junk, .junk, .junk, .junk, .junk, .junk, .junk, .junk], []⟩
abbrev E_lheldRecS_0_0 : SS := ⟨[.junk, .junk, .junk, .junk, .t true (.int .i64), .junk, .junk, .junk, .junk, .junk, .junk, .junk, .junk, .junk, .junk, .junk, .junk, .junk, .junk, .junk, .junk, .junk, .junk, .junk, .junk, .junk, .junk, .junk, .junk, .junk, .junk, .junk, .junk, .junk, .junk, .junk, .junk, .junk, .junk, .junk], []⟩
abbrev E_lheldRecS_0_1 : SS := ⟨[.junk, .t true (.int .i64), .junk, .junk, .junk, .junk, .junk, .junk, .junk, .junk, .junk, .junk, .junk, .junk, .junk, .junk, .junk, .junk, .junk, .junk, .junk, .junk, .junk, .junk, .junk, .junk, .junk, .junk, .junk, .junk, .junk, .junk, .junk, .junk, .junk, .junk, .junk, .junk, .junk, .junk], []⟩
def st_lheldRecS_0 (x0 : List (Int × Int × List (Int × ByteArray × ByteArray))) (x1 : Int) (x5 : Int) : RT S_lheldRecS_0.den := (.br (decide (x5 < ((x0.length : Nat) : Int))) (.br (decide (0 ≤ x5 ∧ x5 < ((x0.length : Nat) : Int))) (.br (((x0.getD x5.toNat ((0 : Int), ((0 : Int), []))).1) != x1) (.done .ret E_lheldRecS_0_0 (((), (), (), (), (-1 : Int), (), (), (), (), (), (), (), (), (), (), (), (), (), (), (), (), (), (), (), (), (), (), (), (), (), (), (), (), (), (), (), (), (), (), (), ()), ())) (.br (decide (0 ≤ x5 ∧ x5 < ((x0.length : Nat) : Int))) (.br ((((x0.getD x5.toNat ((0 : Int), ((0 : Int), []))).2).1) != (IntKind.wrap .i64 (x1 + (1 : Int)))) (.done .ret E_lheldRecS_0_0 (((), (), (), (), (-1 : Int), (), (), (), (), (), (), (), (), (), (), (), (), (), (), (), (), (), (), (), (), (), (), (), (), (), (), (), (), (), (), (), (), (), (), (), ()), ())) (.br (decide (0 ≤ x5 ∧ x5 < ((x0.length : Nat) : Int))) (.br (q_lheldOpS (((x0.getD x5.toNat ((0 : Int), ((0 : Int), []))).2).2) (IntKind.wrap .i64 ((IntKind.wrap .i64 (x1 + (1 : Int))) + (1 : Int)))) (.br (decide ((lheldOpS (((x0.getD x5.toNat ((0 : Int), ((0 : Int), []))).2).2) (IntKind.wrap .i64 ((IntKind.wrap .i64 (x1 + (1 : Int))) + (1 : Int)))) < (0 : Int))) (.done .ret E_lheldRecS_0_0 (((), (), (), (), (-1 : Int), (), (), (), (), (), (), (), (), (), (), (), (), (), (), (), (), (), (), (), (), (), (), (), (), (), (), (), (), (), (), (), (), (), (), (), ()), ())) (.next ((x0, (lheldOpS (((x0.getD x5.toNat ((0 : Int), ((0 : Int), []))).2).2) (IntKind.wrap .i64 ((IntKind.wrap .i64 (x1 + (1 : Int))) + (1 : Int)))), (), (), (), IntKind.wrap .i64 (x5 + (1 : Int)), (), (), (), (), (), (), (), (), (), (), (), (), (), (), (), (), (), (), (), (), (), (), (), (), (), (), (), (), (), (), (), (), (), (), ()), ()))) .fail) .fail)) .fail)) .fail) (.done (.exit 0) E_lheldRecS_0_1 (((), x1, (), (), (), (), (), (), (), (), (), (), (), (), (), (), (), (), (), (), (), (), (), (), (), (), (), (), (), (), (), (), (), (), (), (), (), (), (), (), ()), ())))
def T_lheldRecS_0 (x0 : List (Int × Int × List (Int × ByteArray × ByteArray))) (x1 : Int) (x5 : Int) : CT := (.br (decide (0 ≤ x5) && decide (x0.length = 0)) (.done (.exit 0) E_lheldRecS_0_1 (((), x1, (), (), (), (), (), (), (), (), (), (), (), (), (), (), (), (), (), (), (), (), (), (), (), (), (), (), (), (), (), (), (), (), (), (), (), (), (), (), ()), ())) .fail)
abbrev sp_lheldRecS_0 : S_lheldRecS_0.den → RT S_lheldRecS_0.den := fun d => st_lheldRecS_0 d.1.1 d.1.2.1 d.1.2.2.2.2.2.1
abbrev pk_lheldRecS_0 (x0 : List (Int × Int × List (Int × ByteArray × ByteArray))) (x1 : Int) (x5 : Int) : S_lheldRecS_0.den := ((x0, x1, (), (), (), x5, (), (), (), (), (), (), (), (), (), (), (), (), (), (), (), (), (), (), (), (), (), (), (), (), (), (), (), (), (), (), (), (), (), (), ()), ())
noncomputable def body_lheldRecS_0 : Code := ((loopsIn 0 (bodyOf Try.f88)).getD 0 (0, .skip)).2
theorem R_lheldRecS_0 (x0 : List (Int × Int × List (Int × ByteArray × ByteArray))) (x1 : Int) (x5 : Int) : (T_lheldRecS_0 x0 x1 x5).val (D := S_lheldRecS_0.den) = .fail ∨ Runs sp_lheldRecS_0 (pk_lheldRecS_0 x0 x1 x5) (T_lheldRecS_0 x0 x1 x5).val := by
  cases hc : (decide (0 ≤ x5) && decide (x0.length = 0)) with
  | false => left; simp only [T_lheldRecS_0, CT.val, hc, cond_false]
  | true =>
    right
    simp only [T_lheldRecS_0, CT.val, hc, cond_true]
    simp only [Bool.and_eq_true, decide_eq_true_eq] at hc
    have h1 : decide (x5 < ((x0.length : Nat) : Int)) = false := decide_eq_false (by omega)
    exact .done (by simp) (by simp only [sp_lheldRecS_0, st_lheldRecS_0, RT.val, h1, cond_false])
theorem rd_lheldRecS_0 : ∀ d base killed, execC Try.prog tt S17 QF17 (fun _ _ => none) 0 body_lheldRecS_0 (S_lheldRecS_0.st d base killed) (fun e s' => some (e, S_lheldRecS_0.cutE (kepts [4] [(0, [1])]) e s')) = (sp_lheldRecS_0 d).opt base killed := by
  intro d base killed
  kernel_rfl
abbrev say_lheldRecS_0 : St → Option Tree := S_lheldRecS_0.say [] (fun d => T_lheldRecS_0 d.1.1 d.1.2.1 d.1.2.2.2.2.2.1)
theorem lw_lheldRecS_0 : LoopWp Try.prog say_lheldRecS_0 body_lheldRecS_0 := SS.wp G17 (fun _ _ => none) (by rw [show loopsIn 0 body_lheldRecS_0 = [] by kernel_rfl]; simp) S_lheldRecS_0 (kepts [4] [(0, [1])]) [] sp_lheldRecS_0 rd_lheldRecS_0 _ (fun d => R_lheldRecS_0 d.1.1 d.1.2.1 d.1.2.2.2.2.2.1)
def lheldRecS (a0 : List (Int × Int × List (Int × ByteArray × ByteArray))) (a1 : Int) : Int := a1
abbrev e_lheldRecS (r : Int) : AV × List AObj := ((.t true (.int .i64) r), [])
abbrev g_lheldRecS : pshsDen P_lheldRecS → AV × List AObj := fun d => e_lheldRecS (lheldRecS d.1 d.2.1)
def q_lheldRecS (a0 : List (Int × Int × List (Int × ByteArray × ByteArray))) (a1 : Int) : Bool := decide (a0.length = 0)
abbrev pre_lheldRecS : pshsDen P_lheldRecS → Bool := fun d => q_lheldRecS d.1 d.2.1
theorem runA_lheldRecS (a0 : List (Int × Int × List (Int × ByteArray × ByteArray))) (a1 : Int) (hp : (decide (a0.length = 0)) = true) : runP true Try.prog tt S17 QF17 (fun b => match b with | 0 => say_lheldRecS_0 | _ => fun _ => none) Try.f88 (argsMk P_lheldRecS (a0, (a1, ()))) = some (g_lheldRecS (a0, (a1, ()))) := by
  refine Eq.trans (b := (cond (decide (0 ≤ (0 : Int)) && decide (a0.length = 0)) (some (e_lheldRecS a1)) none)) (by kernel_rfl) ?_
  exact (cndT (by simpa using hp) (fun _h => rfl))
theorem run_lheldRecS : ∀ d, pre_lheldRecS d = true → runP true Try.prog tt S17 QF17 (fun b => match b with | 0 => say_lheldRecS_0 | _ => fun _ => none) Try.f88 (argsMk P_lheldRecS d) = some (g_lheldRecS d) := fun d hp => runA_lheldRecS d.1 d.2.1 hp
theorem c_lheldRecS : PContract Try.prog 88 (sumOf P_lheldRecS pre_lheldRecS g_lheldRecS) := PContract.of_data true G17 (fn := Try.f88) (by kernel_rfl) (L := fun b => match b with | 0 => say_lheldRecS_0 | _ => fun _ => none) (by rw [show loopsIn 0 (bodyOf Try.f88) = [(0, body_lheldRecS_0)] by kernel_rfl]; intro p hp; simp only [List.mem_singleton] at hp; subst hp; exact lw_lheldRecS_0) P_lheldRecS pre_lheldRecS g_lheldRecS run_lheldRecS
def S18 : Tab := Tab.add S17 88 (lift (sumOf P_lheldRecS pre_lheldRecS g_lheldRecS))
def QF18 : FuncId → Bool := qadd QF17 88
theorem G18 : Good Try.prog tt S18 QF18 := G17.addQ c_lheldRecS ⟨Try.f88, by kernel_rfl, by kernel_rfl, by kernel_rfl⟩ (fun _ => rfl)

/-! 51 loop.example/g00244/laws.heldPairS -/
abbrev P_lheldPairS : List PSh := [.t (.sl (.pair .str .str)), .t (.int .i64)]
abbrev S_lheldPairS_0 : SS := ⟨[.t false (.sl (.pair .str .str)), .t true (.int .i64), .junk, .junk, .junk, .t true (.int .i64), .junk, .junk, .junk, .junk, .junk, .junk, .junk, .junk, .junk, .junk, .junk, .junk, .junk, .junk, .junk, .junk, .junk, .junk, .junk, .junk, .junk, .junk, .junk, .junk, .junk, .junk, .junk], []⟩
abbrev E_lheldPairS_0_0 : SS := ⟨[.junk, .t true (.int .i64), .junk, .junk, .junk, .junk, .junk, .junk, .junk, .junk, .junk, .junk, .junk, .junk, .junk, .junk, .junk, .junk, .junk, .junk, .junk, .junk, .junk, .junk, .junk, .junk, .junk, .junk, .junk, .junk, .junk, .junk, .junk], []⟩
def st_lheldPairS_0 (x0 : List (ByteArray × ByteArray)) (x1 : Int) (x5 : Int) : RT S_lheldPairS_0.den := (.br (decide (x5 < ((x0.length : Nat) : Int))) .fail (.done (.exit 0) E_lheldPairS_0_0 (((), x1, (), (), (), (), (), (), (), (), (), (), (), (), (), (), (), (), (), (), (), (), (), (), (), (), (), (), (), (), (), (), (), ()), ())))
def T_lheldPairS_0 (x0 : List (ByteArray × ByteArray)) (x1 : Int) (x5 : Int) : CT := (.br (decide (0 ≤ x5) && decide (x0.length = 0)) (.done (.exit 0) E_lheldPairS_0_0 (((), x1, (), (), (), (), (), (), (), (), (), (), (), (), (), (), (), (), (), (), (), (), (), (), (), (), (), (), (), (), (), (), (), ()), ())) .fail)
abbrev sp_lheldPairS_0 : S_lheldPairS_0.den → RT S_lheldPairS_0.den := fun d => st_lheldPairS_0 d.1.1 d.1.2.1 d.1.2.2.2.2.2.1
abbrev pk_lheldPairS_0 (x0 : List (ByteArray × ByteArray)) (x1 : Int) (x5 : Int) : S_lheldPairS_0.den := ((x0, x1, (), (), (), x5, (), (), (), (), (), (), (), (), (), (), (), (), (), (), (), (), (), (), (), (), (), (), (), (), (), (), (), ()), ())
noncomputable def body_lheldPairS_0 : Code := ((loopsIn 0 (bodyOf Try.f51)).getD 0 (0, .skip)).2
theorem R_lheldPairS_0 (x0 : List (ByteArray × ByteArray)) (x1 : Int) (x5 : Int) : (T_lheldPairS_0 x0 x1 x5).val (D := S_lheldPairS_0.den) = .fail ∨ Runs sp_lheldPairS_0 (pk_lheldPairS_0 x0 x1 x5) (T_lheldPairS_0 x0 x1 x5).val := by
  cases hc : (decide (0 ≤ x5) && decide (x0.length = 0)) with
  | false => left; simp only [T_lheldPairS_0, CT.val, hc, cond_false]
  | true =>
    right
    simp only [T_lheldPairS_0, CT.val, hc, cond_true]
    simp only [Bool.and_eq_true, decide_eq_true_eq] at hc
    have h1 : decide (x5 < ((x0.length : Nat) : Int)) = false := decide_eq_false (by omega)
    exact .done (by simp) (by simp only [sp_lheldPairS_0, st_lheldPairS_0, RT.val, h1, cond_false])
theorem rd_lheldPairS_0 : ∀ d base killed, execC Try.prog tt S18 QF18 (fun _ _ => none) 0 body_lheldPairS_0 (S_lheldPairS_0.st d base killed) (fun e s' => some (e, S_lheldPairS_0.cutE (kepts [4] [(0, [1])]) e s')) = (sp_lheldPairS_0 d).opt base killed := by
  intro d base killed
  kernel_rfl
abbrev say_lheldPairS_0 : St → Option Tree := S_lheldPairS_0.say [] (fun d => T_lheldPairS_0 d.1.1 d.1.2.1 d.1.2.2.2.2.2.1)
theorem lw_lheldPairS_0 : LoopWp Try.prog say_lheldPairS_0 body_lheldPairS_0 := SS.wp G18 (fun _ _ => none) (by rw [show loopsIn 0 body_lheldPairS_0 = [] by kernel_rfl]; simp) S_lheldPairS_0 (kepts [4] [(0, [1])]) [] sp_lheldPairS_0 rd_lheldPairS_0 _ (fun d => R_lheldPairS_0 d.1.1 d.1.2.1 d.1.2.2.2.2.2.1)
def lheldPairS (a0 : List (ByteArray × ByteArray)) (a1 : Int) : Int := a1
abbrev e_lheldPairS (r : Int) : AV × List AObj := ((.t true (.int .i64) r), [])
abbrev g_lheldPairS : pshsDen P_lheldPairS → AV × List AObj := fun d => e_lheldPairS (lheldPairS d.1 d.2.1)
def q_lheldPairS (a0 : List (ByteArray × ByteArray)) (a1 : Int) : Bool := decide (a0.length = 0)
abbrev pre_lheldPairS : pshsDen P_lheldPairS → Bool := fun d => q_lheldPairS d.1 d.2.1
theorem runA_lheldPairS (a0 : List (ByteArray × ByteArray)) (a1 : Int) (hp : (decide (a0.length = 0)) = true) : runP true Try.prog tt S18 QF18 (fun b => match b with | 0 => say_lheldPairS_0 | _ => fun _ => none) Try.f51 (argsMk P_lheldPairS (a0, (a1, ()))) = some (g_lheldPairS (a0, (a1, ()))) := by
  refine Eq.trans (b := (cond (decide (0 ≤ (0 : Int)) && decide (a0.length = 0)) (some (e_lheldPairS a1)) none)) (by kernel_rfl) ?_
  exact (cndT (by simpa using hp) (fun _h => rfl))
theorem run_lheldPairS : ∀ d, pre_lheldPairS d = true → runP true Try.prog tt S18 QF18 (fun b => match b with | 0 => say_lheldPairS_0 | _ => fun _ => none) Try.f51 (argsMk P_lheldPairS d) = some (g_lheldPairS d) := fun d hp => runA_lheldPairS d.1 d.2.1 hp
theorem c_lheldPairS : PContract Try.prog 51 (sumOf P_lheldPairS pre_lheldPairS g_lheldPairS) := PContract.of_data true G18 (fn := Try.f51) (by kernel_rfl) (L := fun b => match b with | 0 => say_lheldPairS_0 | _ => fun _ => none) (by rw [show loopsIn 0 (bodyOf Try.f51) = [(0, body_lheldPairS_0)] by kernel_rfl]; intro p hp; simp only [List.mem_singleton] at hp; subst hp; exact lw_lheldPairS_0) P_lheldPairS pre_lheldPairS g_lheldPairS run_lheldPairS
def S19 : Tab := Tab.add S18 51 (lift (sumOf P_lheldPairS pre_lheldPairS g_lheldPairS))
def QF19 : FuncId → Bool := qadd QF18 51
theorem G19 : Good Try.prog tt S19 QF19 := G18.addQ c_lheldPairS ⟨Try.f51, by kernel_rfl, by kernel_rfl, by kernel_rfl⟩ (fun _ => rfl)

/-! 29 loop.example/g00244/laws.heldShard -/
abbrev P_lheldShard : List PSh := [.agg [(.int .i64), (.sl (.pair (.int .i64) (.pair (.int .i64) (.sl (.pair (.int .i64) (.pair .str .str)))))), (.int .i64), (.sl (.pair .str .str)), (.sl (.pair (.int .i64) (.pair (.int .i64) (.sl (.pair (.int .i64) (.pair .str .str))))))], .t (.int .i64)]
def lheldShard (a0 : Int) (a1 : List (Int × Int × List (Int × ByteArray × ByteArray))) (a2 : Int) (a3 : List (ByteArray × ByteArray)) (a4 : List (Int × Int × List (Int × ByteArray × ByteArray))) (a5 : Int) : Int := (cond (decide ((lheldRecS a1 a5) < (0 : Int))) (-1 : Int) (cond (decide ((lheldPairS a3 (lheldRecS a1 a5)) < (0 : Int))) (-1 : Int) (cond (decide ((lheldRecS a4 (lheldPairS a3 (lheldRecS a1 a5))) < (0 : Int))) (-1 : Int) (lheldRecS a4 (lheldPairS a3 (lheldRecS a1 a5))))))
abbrev e_lheldShard (r : Int) : AV × List AObj := ((.t true (.int .i64) r), [])
abbrev g_lheldShard : pshsDen P_lheldShard → AV × List AObj := fun d => e_lheldShard (lheldShard d.1.1 d.1.2.1 d.1.2.2.1 d.1.2.2.2.1 d.1.2.2.2.2.1 d.2.1)
def q_lheldShard (a0 : Int) (a1 : List (Int × Int × List (Int × ByteArray × ByteArray))) (a2 : Int) (a3 : List (ByteArray × ByteArray)) (a4 : List (Int × Int × List (Int × ByteArray × ByteArray))) (a5 : Int) : Bool := (q_lheldRecS a1 a5) && (q_lheldPairS a3 (lheldRecS a1 a5)) && (q_lheldRecS a4 (lheldPairS a3 (lheldRecS a1 a5)))
abbrev pre_lheldShard : pshsDen P_lheldShard → Bool := fun d => q_lheldShard d.1.1 d.1.2.1 d.1.2.2.1 d.1.2.2.2.1 d.1.2.2.2.2.1 d.2.1
theorem runA_lheldShard (a0 : Int) (a1 : List (Int × Int × List (Int × ByteArray × ByteArray))) (a2 : Int) (a3 : List (ByteArray × ByteArray)) (a4 : List (Int × Int × List (Int × ByteArray × ByteArray))) (a5 : Int) (hp : ((q_lheldRecS a1 a5) && (q_lheldPairS a3 (lheldRecS a1 a5)) && (q_lheldRecS a4 (lheldPairS a3 (lheldRecS a1 a5)))) = true) : runP true Try.prog tt S19 QF19 (fun _ _ => none) Try.f29 (argsMk P_lheldShard ((a0, (a1, (a2, (a3, (a4, ()))))), (a5, ()))) = some (g_lheldShard ((a0, (a1, (a2, (a3, (a4, ()))))), (a5, ()))) := by
  refine Eq.trans (b := (cond (q_lheldRecS a1 a5) (cond (decide ((lheldRecS a1 a5) < (0 : Int))) (some (e_lheldShard (-1 : Int))) (cond (q_lheldPairS a3 (lheldRecS a1 a5)) (cond (decide ((lheldPairS a3 (lheldRecS a1 a5)) < (0 : Int))) (some (e_lheldShard (-1 : Int))) (cond (q_lheldRecS a4 (lheldPairS a3 (lheldRecS a1 a5))) (cond (decide ((lheldRecS a4 (lheldPairS a3 (lheldRecS a1 a5))) < (0 : Int))) (some (e_lheldShard (-1 : Int))) (some (e_lheldShard (lheldRecS a4 (lheldPairS a3 (lheldRecS a1 a5)))))) none)) none)) none)) (by kernel_rfl) ?_
  exact (cndT (by first | rfl | decide | exact hp | (simp only [Bool.and_eq_true] at hp; simp only [hp]; done) | (simp [*]; done) | (simp [okL] at hp; simp [okL, MAXB]; omega) | (simp_all; done) | (simp at *; omega)) (fun _h => (cnd (F := fun r => some (e_lheldShard r)) (fun _h => rfl) (fun _h => (cndT (by first | rfl | decide | exact hp | (simp only [Bool.and_eq_true] at hp; simp only [hp]; done) | (simp [*]; done) | (simp [okL] at hp; simp [okL, MAXB]; omega) | (simp_all; done) | (simp at *; omega)) (fun _h => (cnd (F := fun r => some (e_lheldShard r)) (fun _h => rfl) (fun _h => (cndT (by first | rfl | decide | exact hp | (simp only [Bool.and_eq_true] at hp; simp only [hp]; done) | (simp [*]; done) | (simp [okL] at hp; simp [okL, MAXB]; omega) | (simp_all; done) | (simp at *; omega)) (fun _h => (cnd (F := fun r => some (e_lheldShard r)) (fun _h => rfl) (fun _h => rfl))))))))))))
theorem run_lheldShard : ∀ d, pre_lheldShard d = true → runP true Try.prog tt S19 QF19 (fun _ _ => none) Try.f29 (argsMk P_lheldShard d) = some (g_lheldShard d) := fun d hp => runA_lheldShard d.1.1 d.1.2.1 d.1.2.2.1 d.1.2.2.2.1 d.1.2.2.2.2.1 d.2.1 hp
theorem c_lheldShard : PContract Try.prog 29 (sumOf P_lheldShard pre_lheldShard g_lheldShard) := PContract.of_data true G19 (fn := Try.f29) (by kernel_rfl) (L := fun _ _ => none) (by rw [show loopsIn 0 (bodyOf Try.f29) = [] by kernel_rfl]; simp) P_lheldShard pre_lheldShard g_lheldShard run_lheldShard
def S20 : Tab := Tab.add S19 29 (lift (sumOf P_lheldShard pre_lheldShard g_lheldShard))
def QF20 : FuncId → Bool := qadd QF19 29
theorem G20 : Good Try.prog tt S20 QF20 := G19.addQ c_lheldShard ⟨Try.f29, by kernel_rfl, by kernel_rfl, by kernel_rfl⟩ (fun _ => rfl)

/-! 5 loop.example/g00244/laws.FnExactShardNew -/

abbrev P_lFnExactShardNew : List PSh := [.t (.int .i64)]
def lFnExactShardNew (a0 : Int) : Bool := (cond (!(leqShard ((iShardNew a0).1) ((iShardNew a0).2.1) ((iShardNew a0).2.2.1) ((iShardNew a0).2.2.2.1) ((iShardNew a0).2.2.2.2) ((sShardNew a0).1) ((sShardNew a0).2.1) ((sShardNew a0).2.2.1) ((sShardNew a0).2.2.2.1) ((sShardNew a0).2.2.2.2))) false (cond (decide ((lheldShard ((iShardNew a0).1) ((iShardNew a0).2.1) ((iShardNew a0).2.2.1) ((iShardNew a0).2.2.2.1) ((iShardNew a0).2.2.2.2) (1 : Int)) < (0 : Int))) false (cond ((lheldShard ((iShardNew a0).1) ((iShardNew a0).2.1) ((iShardNew a0).2.2.1) ((iShardNew a0).2.2.2.1) ((iShardNew a0).2.2.2.2) (1 : Int)) != (lmarkShard ((iShardNew a0).1) ((iShardNew a0).2.1) ((iShardNew a0).2.2.1) ((iShardNew a0).2.2.2.1) ((iShardNew a0).2.2.2.2) (1 : Int))) false (cond (!(leqShard ((iShardNew a0).1) ((iShardNew a0).2.1) ((iShardNew a0).2.2.1) ((iShardNew a0).2.2.2.1) ((iShardNew a0).2.2.2.2) ((sShardNew a0).1) ((sShardNew a0).2.1) ((sShardNew a0).2.2.1) ((sShardNew a0).2.2.2.1) ((sShardNew a0).2.2.2.2))) false (cond (decide ((lheldShard ((iShardNew a0).1) ((iShardNew a0).2.1) ((iShardNew a0).2.2.1) ((iShardNew a0).2.2.2.1) ((iShardNew a0).2.2.2.2) (1 : Int)) < (0 : Int))) false (cond ((lheldShard ((iShardNew a0).1) ((iShardNew a0).2.1) ((iShardNew a0).2.2.1) ((iShardNew a0).2.2.2.1) ((iShardNew a0).2.2.2.2) (1 : Int)) != (lmarkShard ((iShardNew a0).1) ((iShardNew a0).2.1) ((iShardNew a0).2.2.1) ((iShardNew a0).2.2.2.1) ((iShardNew a0).2.2.2.2) (1 : Int))) false true))))))
abbrev e_lFnExactShardNew (r : Bool) : AV × List AObj := ((.t true .bool r), [])
abbrev g_lFnExactShardNew : pshsDen P_lFnExactShardNew → AV × List AObj := fun d => e_lFnExactShardNew (lFnExactShardNew d.1)
def q_lFnExactShardNew (a0 : Int) : Bool := (q_leqShard ((iShardNew a0).1) ((iShardNew a0).2.1) ((iShardNew a0).2.2.1) ((iShardNew a0).2.2.2.1) ((iShardNew a0).2.2.2.2) ((sShardNew a0).1) ((sShardNew a0).2.1) ((sShardNew a0).2.2.1) ((sShardNew a0).2.2.2.1) ((sShardNew a0).2.2.2.2)) && (q_lmarkShard ((iShardNew a0).1) ((iShardNew a0).2.1) ((iShardNew a0).2.2.1) ((iShardNew a0).2.2.2.1) ((iShardNew a0).2.2.2.2) (1 : Int)) && (q_lheldShard ((iShardNew a0).1) ((iShardNew a0).2.1) ((iShardNew a0).2.2.1) ((iShardNew a0).2.2.2.1) ((iShardNew a0).2.2.2.2) (1 : Int))
abbrev pre_lFnExactShardNew : pshsDen P_lFnExactShardNew → Bool := fun d => q_lFnExactShardNew d.1
theorem runA_lFnExactShardNew (a0 : Int) (hp : ((q_leqShard ((iShardNew a0).1) ((iShardNew a0).2.1) ((iShardNew a0).2.2.1) ((iShardNew a0).2.2.2.1) ((iShardNew a0).2.2.2.2) ((sShardNew a0).1) ((sShardNew a0).2.1) ((sShardNew a0).2.2.1) ((sShardNew a0).2.2.2.1) ((sShardNew a0).2.2.2.2)) && (q_lmarkShard ((iShardNew a0).1) ((iShardNew a0).2.1) ((iShardNew a0).2.2.1) ((iShardNew a0).2.2.2.1) ((iShardNew a0).2.2.2.2) (1 : Int)) && (q_lheldShard ((iShardNew a0).1) ((iShardNew a0).2.1) ((iShardNew a0).2.2.1) ((iShardNew a0).2.2.2.1) ((iShardNew a0).2.2.2.2) (1 : Int))) = true) : runP true Try.prog tt S20 QF20 (fun _ _ => none) Try.f5 (argsMk P_lFnExactShardNew (a0, ())) = some (g_lFnExactShardNew (a0, ())) := by
  refine Eq.trans (b := (cond (q_leqShard ((iShardNew a0).1) ((iShardNew a0).2.1) ((iShardNew a0).2.2.1) ((iShardNew a0).2.2.2.1) ((iShardNew a0).2.2.2.2) ((sShardNew a0).1) ((sShardNew a0).2.1) ((sShardNew a0).2.2.1) ((sShardNew a0).2.2.2.1) ((sShardNew a0).2.2.2.2)) (cond (!(leqShard ((iShardNew a0).1) ((iShardNew a0).2.1) ((iShardNew a0).2.2.1) ((iShardNew a0).2.2.2.1) ((iShardNew a0).2.2.2.2) ((sShardNew a0).1) ((sShardNew a0).2.1) ((sShardNew a0).2.2.1) ((sShardNew a0).2.2.2.1) ((sShardNew a0).2.2.2.2))) (some (e_lFnExactShardNew false)) (cond (q_lmarkShard ((iShardNew a0).1) ((iShardNew a0).2.1) ((iShardNew a0).2.2.1) ((iShardNew a0).2.2.2.1) ((iShardNew a0).2.2.2.2) (1 : Int)) (cond (q_lheldShard ((iShardNew a0).1) ((iShardNew a0).2.1) ((iShardNew a0).2.2.1) ((iShardNew a0).2.2.2.1) ((iShardNew a0).2.2.2.2) (1 : Int)) (cond (decide ((lheldShard ((iShardNew a0).1) ((iShardNew a0).2.1) ((iShardNew a0).2.2.1) ((iShardNew a0).2.2.2.1) ((iShardNew a0).2.2.2.2) (1 : Int)) < (0 : Int))) (some (e_lFnExactShardNew false)) (cond ((lheldShard ((iShardNew a0).1) ((iShardNew a0).2.1) ((iShardNew a0).2.2.1) ((iShardNew a0).2.2.2.1) ((iShardNew a0).2.2.2.2) (1 : Int)) != (lmarkShard ((iShardNew a0).1) ((iShardNew a0).2.1) ((iShardNew a0).2.2.1) ((iShardNew a0).2.2.2.1) ((iShardNew a0).2.2.2.2) (1 : Int))) (some (e_lFnExactShardNew false)) (cond (q_leqShard ((iShardNew a0).1) ((iShardNew a0).2.1) ((iShardNew a0).2.2.1) ((iShardNew a0).2.2.2.1) ((iShardNew a0).2.2.2.2) ((sShardNew a0).1) ((sShardNew a0).2.1) ((sShardNew a0).2.2.1) ((sShardNew a0).2.2.2.1) ((sShardNew a0).2.2.2.2)) (cond (!(leqShard ((iShardNew a0).1) ((iShardNew a0).2.1) ((iShardNew a0).2.2.1) ((iShardNew a0).2.2.2.1) ((iShardNew a0).2.2.2.2) ((sShardNew a0).1) ((sShardNew a0).2.1) ((sShardNew a0).2.2.1) ((sShardNew a0).2.2.2.1) ((sShardNew a0).2.2.2.2))) (some (e_lFnExactShardNew false)) (cond (q_lheldShard ((iShardNew a0).1) ((iShardNew a0).2.1) ((iShardNew a0).2.2.1) ((iShardNew a0).2.2.2.1) ((iShardNew a0).2.2.2.2) (1 : Int)) (cond (decide ((lheldShard ((iShardNew a0).1) ((iShardNew a0).2.1) ((iShardNew a0).2.2.1) ((iShardNew a0).2.2.2.1) ((iShardNew a0).2.2.2.2) (1 : Int)) < (0 : Int))) (some (e_lFnExactShardNew false)) (cond ((lheldShard ((iShardNew a0).1) ((iShardNew a0).2.1) ((iShardNew a0).2.2.1) ((iShardNew a0).2.2.2.1) ((iShardNew a0).2.2.2.2) (1 : Int)) != (lmarkShard ((iShardNew a0).1) ((iShardNew a0).2.1) ((iShardNew a0).2.2.1) ((iShardNew a0).2.2.2.1) ((iShardNew a0).2.2.2.2) (1 : Int))) (some (e_lFnExactShardNew false)) (some (e_lFnExactShardNew true)))) none)) none))) none) none)) none)) (by kernel_rfl) ?_
  exact (cndT (by first | rfl | decide | exact hp | (simp only [Bool.and_eq_true] at hp; simp only [hp]; done) | (simp [*]; done) | (simp [okL] at hp; simp [okL, MAXB]; omega) | (simp_all; done) | (simp at *; omega)) (fun _h => (cnd (F := fun r => some (e_lFnExactShardNew r)) (fun _h => rfl) (fun _h => (cndT (by first | rfl | decide | exact hp | (simp only [Bool.and_eq_true] at hp; simp only [hp]; done) | (simp [*]; done) | (simp [okL] at hp; simp [okL, MAXB]; omega) | (simp_all; done) | (simp at *; omega)) (fun _h => (cndT (by first | rfl | decide | exact hp | (simp only [Bool.and_eq_true] at hp; simp only [hp]; done) | (simp [*]; done) | (simp [okL] at hp; simp [okL, MAXB]; omega) | (simp_all; done) | (simp at *; omega)) (fun _h => (cnd (F := fun r => some (e_lFnExactShardNew r)) (fun _h => rfl) (fun _h => (cnd (F := fun r => some (e_lFnExactShardNew r)) (fun _h => rfl) (fun _h => (cndT (by first | rfl | decide | exact hp | (simp only [Bool.and_eq_true] at hp; simp only [hp]; done) | (simp [*]; done) | (simp [okL] at hp; simp [okL, MAXB]; omega) | (simp_all; done) | (simp at *; omega)) (fun _h => (cnd (F := fun r => some (e_lFnExactShardNew r)) (fun _h => rfl) (fun _h => (cndT (by first | rfl | decide | exact hp | (simp only [Bool.and_eq_true] at hp; simp only [hp]; done) | (simp [*]; done) | (simp [okL] at hp; simp [okL, MAXB]; omega) | (simp_all; done) | (simp at *; omega)) (fun _h => (cnd (F := fun r => some (e_lFnExactShardNew r)) (fun _h => rfl) (fun _h => (cnd (F := fun r => some (e_lFnExactShardNew r)) (fun _h => rfl) (fun _h => rfl))))))))))))))))))))))
theorem run_lFnExactShardNew : ∀ d, pre_lFnExactShardNew d = true → runP true Try.prog tt S20 QF20 (fun _ _ => none) Try.f5 (argsMk P_lFnExactShardNew d) = some (g_lFnExactShardNew d) := fun d hp => runA_lFnExactShardNew d.1 hp
theorem c_lFnExactShardNew : PContract Try.prog 5 (sumOf P_lFnExactShardNew pre_lFnExactShardNew g_lFnExactShardNew) := PContract.of_data true G20 (fn := Try.f5) (by kernel_rfl) (L := fun _ _ => none) (by rw [show loopsIn 0 (bodyOf Try.f5) = [] by kernel_rfl]; simp) P_lFnExactShardNew pre_lFnExactShardNew g_lFnExactShardNew run_lFnExactShardNew
def S21 : Tab := Tab.add S20 5 (lift (sumOf P_lFnExactShardNew pre_lFnExactShardNew g_lFnExactShardNew))
def QF21 : FuncId → Bool := qadd QF20 5
theorem G21 : Good Try.prog tt S21 QF21 := G20.addQ c_lFnExactShardNew ⟨Try.f5, by kernel_rfl, by kernel_rfl, by kernel_rfl⟩ (fun _ => rfl)
theorem shardNew_same (n : Int) : sShardNew n = iShardNew n := by simp only [sShardNew, iShardNew, iisId]; rfl
theorem shardNew_empty (n : Int) : iShardNew n = ((iShardNew n).1, [], (0 : Int), [], []) := by
  simp only [iShardNew]
  cases (!(iisId n)) <;> rfl
theorem pre_of_lFnExactShardNew (n : Int) (_ : bigT (.int .i64) n = true) : pre_lFnExactShardNew (n, ()) = true := by
  show q_lFnExactShardNew n = true
  simp only [q_lFnExactShardNew, shardNew_same]
  rw [shardNew_empty]
  rfl
theorem exact_lFnExactShardNew (n : Int) (_ : pre_lFnExactShardNew (n, ()) = true) : lFnExactShardNew n = true := by
  simp only [lFnExactShardNew, shardNew_same]
  rw [shardNew_empty]
  have e : leqShard (iShardNew n).1 [] 0 [] [] (iShardNew n).1 [] 0 [] [] = true := by simp [leqShard, leqRecS, leqPairS, allF]
  have h : lheldShard (iShardNew n).1 [] 0 [] [] 1 = 1 := rfl
  have m : lmarkShard (iShardNew n).1 [] 0 [] [] 1 = 1 := rfl
  simp [e, h, m]

end Go.Proofs.Ytoddiofedjnapaa.Eng
