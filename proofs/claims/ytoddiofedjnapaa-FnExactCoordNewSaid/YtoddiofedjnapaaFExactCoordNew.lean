/- What the functions that FnExactCoordNew reaches compute, and that it answers true. -/
import Derived.Test.YtoddiofedjnapaaT
import Derived.Test.YtoddiofedjnapaaRows
namespace Go.Proofs.Ytoddiofedjnapaa.Eng
open Go Go.RowKit
set_option linter.unusedSimpArgs false
set_option linter.unusedVariables false
set_option maxRecDepth 10000
def S0 : Tab := fun _ => none
def QF0 : FuncId → Bool := fun _ => false
theorem G0 : Good Try.prog tt S0 QF0 := Good.start tt_ok (by kernel_rfl)
/-! Plain laws: order of bytes, keys, ops. -/
theorem bytesLess_irrefl : ∀ a : List UInt8, Op.bytesLess a a = false := by
  intro a
  induction a with
  | nil => rfl
  | cons x a ih => simp only [Op.bytesLess, ih, Bool.and_false, Bool.or_false, decide_eq_false_iff_not]; exact UInt8.lt_irrefl x
theorem bytesLess_ge : ∀ a b : List UInt8, (!(Op.bytesLess a b)) = (Op.bytesLess b a || b == a) := by
  intro a
  induction a with
  | nil => intro b; cases b <;> simp [Op.bytesLess]
  | cons x a ih =>
    intro b
    cases b with
    | nil => simp [Op.bytesLess]
    | cons y b =>
      simp only [Op.bytesLess]
      by_cases h1 : x < y
      · have h2 : ¬ y < x := fun h => UInt8.lt_irrefl _ (UInt8.lt_trans h1 h)
        have h3 : (y == x) = false := by rw [beq_eq_false_iff_ne]; intro h; subst h; exact h2 h1
        have h4 : (y :: b == x :: a) = false := by rw [List.cons_beq_cons, h3, Bool.false_and]
        simp [h1, h2, h3, h4]
      · by_cases h5 : x = y
        · subst h5
          have h6 : (x :: b == x :: a) = (b == a) := by rw [List.cons_beq_cons]; simp
          have := ih b
          simp only [h1, decide_false, Bool.false_or, beq_self_eq_true, Bool.true_and, h6, this]
        · have h7 : y < x := by
            rcases Nat.lt_trichotomy x.toNat y.toNat with h | h | h
            · exact absurd (UInt8.lt_iff_toNat_lt.2 h) h1
            · exact absurd (UInt8.toNat_inj.1 h) h5
            · exact UInt8.lt_iff_toNat_lt.2 h
          have h8 : (x == y) = false := by rw [beq_eq_false_iff_ne]; exact h5
          simp [h1, h7, h8]
theorem allF_congr {p q : Nat → Bool} : ∀ k i, (∀ j, i ≤ j → j < i + k → p j = q j) → allF p k i = allF q k i := by
  intro k
  induction k with
  | zero => intro i h; rfl
  | succ k ih => intro i h; simp only [allF]; rw [h i (Nat.le_refl _) (by omega), ih (i + 1) (fun j h1 h2 => h j (by omega) (by omega))]
theorem allF_same {p : Nat → Bool} (k i : Nat) (h : ∀ j, i ≤ j → j < i + k → p j = true) : allF p k i = true := (allF_true k i).2 h
theorem szN_all {f : Nat → Int → Int} {Q : Nat → Prop} {M : Int} : ∀ (k i : Nat) (b : Int), (∀ j b, i ≤ j → j < i + k → 0 ≤ b → b ≤ M → 0 ≤ f j b → Q j ∧ f j b ≤ b) → 0 ≤ b → b ≤ M → isInl (szN f k i b) = true →
    (∀ j, i ≤ j → j < i + k → Q j) ∧ 0 ≤ getInl (-1) (szN f k i b) ∧ getInl (-1) (szN f k i b) ≤ b := by
  intro k
  induction k with
  | zero => intro i b hf h1 h2 h3; exact ⟨fun j hj hk => by omega, h1, Int.le_refl _⟩
  | succ k ih =>
    intro i b hf h1 h2 h3
    have e : szN f (k + 1) i b = cond (decide (f i b < 0)) (.inr ()) (szN f k (i + 1) (f i b)) := by
      simp only [szN, loopN]
      cases decide (f i b < 0) <;> rfl
    rw [e] at h3 ⊢
    cases hd : decide (f i b < 0) with
    | true => rw [hd] at h3; cases h3
    | false =>
      rw [hd] at h3
      simp only [cond_false] at h3 ⊢
      have h0 : 0 ≤ f i b := by have := of_decide_eq_false hd; omega
      obtain ⟨q1, q2⟩ := hf i b (Nat.le_refl _) (by omega) h1 h2 h0
      obtain ⟨r1, r2, r3⟩ := ih (i + 1) (f i b) (fun j b hj hk => hf j b (by omega) (by omega)) h0 (by omega) h3
      refine ⟨fun j hj hk => ?_, r2, by omega⟩
      by_cases ej : j = i
      · exact ej ▸ q1
      · exact r1 j (by omega) (by omega)
abbrev OpT : Type := Int × ByteArray × ByteArray
def dOp : Int × ByteArray × ByteArray := ((0 : Int), ((⟨#[]⟩ : ByteArray), (⟨#[]⟩ : ByteArray)))
def okOp (o : Int × ByteArray × ByteArray) : Bool := okS o.2.1 && okS o.2.2
def okOps (l : List (Int × ByteArray × ByteArray)) : Bool := okL l && l.all okOp
theorem okOps_at {l : List (Int × ByteArray × ByteArray)} (h : okOps l = true) (i : Nat) (hi : i < l.length) : okS (l.getD i dOp).2.1 = true ∧ okS (l.getD i dOp).2.2 = true := by
  simp only [okOps, Bool.and_eq_true, List.all_eq_true] at h
  have := h.2 (l.getD i dOp) (by simp [List.getD_eq_getElem?_getD, hi])
  simpa [okOp] using this
theorem okOps_len {l : List (Int × ByteArray × ByteArray)} (h : okOps l = true) : l.length ≤ 1048576 := by
  simp only [okOps, Bool.and_eq_true] at h
  exact okL_le h.1
def bigS (s : ByteArray) : Bool := decide (s.size ≤ 9223372036854775807)
def bigOps (l : List (Int × ByteArray × ByteArray)) : Bool := decide (l.length ≤ 9223372036854775807) && l.all (fun o => bigS o.2.1 && bigS o.2.2)
theorem bigOps_at {l : List (Int × ByteArray × ByteArray)} (h : bigOps l = true) (i : Nat) (hi : i < l.length) : bigS (l.getD i dOp).2.1 = true ∧ bigS (l.getD i dOp).2.2 = true := by
  simp only [bigOps, Bool.and_eq_true, List.all_eq_true] at h
  exact h.2 (l.getD i dOp) (by simp [List.getD_eq_getElem?_getD, hi])
theorem okOps_of {l : List (Int × ByteArray × ByteArray)} (h1 : l.length ≤ 1048576) (h2 : ∀ i, i < l.length → okS (l.getD i dOp).2.1 = true ∧ okS (l.getD i dOp).2.2 = true) : okOps l = true := by
  simp only [okOps, okL, Bool.and_eq_true, decide_eq_true_eq, List.all_eq_true]
  refine ⟨h1, fun o ho => ?_⟩
  obtain ⟨i, hi, rfl⟩ := List.getElem_of_mem ho
  have := h2 i hi
  simp only [List.getD_eq_getElem?_getD, List.getElem?_eq_getElem hi, Option.getD_some] at this
  simp [okOp, this.1, this.2]
theorem ba_beq (a b : ByteArray) : (a.toList == b.toList) = decide (a = b) := by
  rw [ByteArray.toList_eq, ByteArray.toList_eq]
  by_cases h : a = b
  · subst h; simp
  · rw [decide_eq_false h, beq_eq_false_iff_ne]
    intro e
    exact h (by cases a; cases b; simp at e; rw [e])
theorem bigOps_len {l : List (Int × ByteArray × ByteArray)} (h : bigOps l = true) : l.length ≤ 9223372036854775807 := by
  simp only [bigOps, Bool.and_eq_true, decide_eq_true_eq] at h; exact h.1
theorem okOps_okL {l : List (Int × ByteArray × ByteArray)} (h : okOps l = true) : okL l = true := by
  simp only [okOps, Bool.and_eq_true] at h; exact h.1
theorem bigOps_of {l : List (Int × ByteArray × ByteArray)} (h : bigT (.sl (.pair (.int .i64) (.pair .str .str))) l = true) : bigOps l = true := by
  have h : (decide (l.length ≤ maxLen) && l.all fun o => (Lit.int .i64 o.1).wf && (decide (o.2.1.size ≤ maxLen) && decide (o.2.2.size ≤ maxLen))) = true := h
  have hm : maxLen = 9223372036854775807 := by decide
  rw [hm] at h
  simp only [Bool.and_eq_true, decide_eq_true_eq, List.all_eq_true] at h
  simp only [bigOps, bigS, Bool.and_eq_true, decide_eq_true_eq, List.all_eq_true]
  exact ⟨h.1, fun o ho => (h.2 o ho).2⟩
theorem bigRec_ops {k t : Int} {l : List (Int × ByteArray × ByteArray)} (h : bigT (.pair (.int .i64) (.pair (.int .i64) (.sl (.pair (.int .i64) (.pair .str .str))))) (k, (t, l)) = true) : bigOps l = true := by
  have hb : ((Lit.int .i64 k).wf && ((Lit.int .i64 t).wf && bigT (.sl (.pair (.int .i64) (.pair .str .str))) l)) = true := h
  rw [Bool.and_eq_true, Bool.and_eq_true] at hb
  exact bigOps_of hb.2.2

/-! 83 loop.example/g00244/spec.l1In -/
abbrev P_sl1In : List PSh := [.t (.int .i64), .t (.int .i64), .t (.int .i64)]
def sl1In (a0 : Int) (a1 : Int) (a2 : Int) : Bool := (cond (decide (a0 ≥ a1)) (decide (a0 ≤ a2)) false)
abbrev e_sl1In (r : Bool) : AV × List AObj := ((.t true .bool r), [])
abbrev g_sl1In : pshsDen P_sl1In → AV × List AObj := fun d => e_sl1In (sl1In d.1 d.2.1 d.2.2.1)
abbrev pre_sl1In : pshsDen P_sl1In → Bool := fun d => true
theorem runA_sl1In (a0 : Int) (a1 : Int) (a2 : Int) : runP true Try.prog tt S0 QF0 (fun _ _ => none) Try.f83 (argsMk P_sl1In (a0, (a1, (a2, ())))) = some (g_sl1In (a0, (a1, (a2, ())))) := by
  refine Eq.trans (b := (cond (decide (a0 ≥ a1)) (some (e_sl1In (decide (a0 ≤ a2)))) (some (e_sl1In false)))) (by kernel_rfl) ?_
  exact (cnd (F := fun r => some (e_sl1In r)) (fun _h => rfl) (fun _h => rfl))
theorem run_sl1In : ∀ d, pre_sl1In d = true → runP true Try.prog tt S0 QF0 (fun _ _ => none) Try.f83 (argsMk P_sl1In d) = some (g_sl1In d) := fun d hp => runA_sl1In d.1 d.2.1 d.2.2.1
theorem c_sl1In : PContract Try.prog 83 (sumOf P_sl1In pre_sl1In g_sl1In) := PContract.of_data true G0 (fn := Try.f83) (by kernel_rfl) (L := fun _ _ => none) (by rw [show loopsIn 0 (bodyOf Try.f83) = [] by kernel_rfl]; simp) P_sl1In pre_sl1In g_sl1In run_sl1In
def S1 : Tab := Tab.add S0 83 (lift (sumOf P_sl1In pre_sl1In g_sl1In))
def QF1 : FuncId → Bool := qadd QF0 83
theorem G1 : Good Try.prog tt S1 QF1 := G0.addQ c_sl1In ⟨Try.f83, by kernel_rfl, by kernel_rfl, by kernel_rfl⟩ (fun _ => rfl)

/-! 30 loop.example/g00244/spec.CoordNew -/
abbrev P_sCoordNew : List PSh := [.t (.int .i64)]
def sCoordNew (a0 : Int) : Int × Int × Int × (List (Int × (List (Int × ByteArray × ByteArray)) × Int × List Int)) × (List (Int × Bool)) × Int := (cond (!(sl1In a0 (1 : Int) (8 : Int))) ((0 : Int), (0 : Int), (0 : Int), [], [], (0 : Int)) (a0, (1 : Int), (0 : Int), [], [], (0 : Int)))
abbrev e_sCoordNew (r : Int × Int × Int × (List (Int × (List (Int × ByteArray × ByteArray)) × Int × List Int)) × (List (Int × Bool)) × Int) : AV × List AObj := ((.agg [(.t true (.int .i64) r.1), (.t true (.int .i64) r.2.1), (.t true (.int .i64) r.2.2.1), (.t true (.sl (.pair (.int .i64) (.pair (.sl (.pair (.int .i64) (.pair .str .str))) (.pair (.int .i64) (.sl (.int .i64)))))) r.2.2.2.1), (.t true (.sl (.pair (.int .i64) .bool)) r.2.2.2.2.1), (.t true (.int .i64) r.2.2.2.2.2)]), [])
abbrev g_sCoordNew : pshsDen P_sCoordNew → AV × List AObj := fun d => e_sCoordNew (sCoordNew d.1)
abbrev pre_sCoordNew : pshsDen P_sCoordNew → Bool := fun d => true
theorem runA_sCoordNew (a0 : Int) : runP true Try.prog tt S1 QF1 (fun _ _ => none) Try.f30 (argsMk P_sCoordNew (a0, ())) = some (g_sCoordNew (a0, ())) := by
  refine Eq.trans (b := (cond (!(sl1In a0 (1 : Int) (8 : Int))) (some (e_sCoordNew ((0 : Int), (0 : Int), (0 : Int), [], [], (0 : Int)))) (some (e_sCoordNew (a0, (1 : Int), (0 : Int), [], [], (0 : Int)))))) (by kernel_rfl) ?_
  exact (cnd (F := fun r => some (e_sCoordNew r)) (fun _h => rfl) (fun _h => rfl))
theorem run_sCoordNew : ∀ d, pre_sCoordNew d = true → runP true Try.prog tt S1 QF1 (fun _ _ => none) Try.f30 (argsMk P_sCoordNew d) = some (g_sCoordNew d) := fun d hp => runA_sCoordNew d.1
theorem c_sCoordNew : PContract Try.prog 30 (sumOf P_sCoordNew pre_sCoordNew g_sCoordNew) := PContract.of_data true G1 (fn := Try.f30) (by kernel_rfl) (L := fun _ _ => none) (by rw [show loopsIn 0 (bodyOf Try.f30) = [] by kernel_rfl]; simp) P_sCoordNew pre_sCoordNew g_sCoordNew run_sCoordNew
def S2 : Tab := Tab.add S1 30 (lift (sumOf P_sCoordNew pre_sCoordNew g_sCoordNew))
def QF2 : FuncId → Bool := qadd QF1 30
theorem G2 : Good Try.prog tt S2 QF2 := G1.addQ c_sCoordNew ⟨Try.f30, by kernel_rfl, by kernel_rfl, by kernel_rfl⟩ (fun _ => rfl)

/-! 89 loop.example/g00244/impl.inRange -/
abbrev P_iinRange : List PSh := [.t (.int .i64), .t (.int .i64), .t (.int .i64)]
def iinRange (a0 : Int) (a1 : Int) (a2 : Int) : Bool := (cond (decide (a0 ≥ a1)) (decide (a0 ≤ a2)) false)
abbrev e_iinRange (r : Bool) : AV × List AObj := ((.t true .bool r), [])
abbrev g_iinRange : pshsDen P_iinRange → AV × List AObj := fun d => e_iinRange (iinRange d.1 d.2.1 d.2.2.1)
abbrev pre_iinRange : pshsDen P_iinRange → Bool := fun d => true
theorem runA_iinRange (a0 : Int) (a1 : Int) (a2 : Int) : runP true Try.prog tt S2 QF2 (fun _ _ => none) Try.f89 (argsMk P_iinRange (a0, (a1, (a2, ())))) = some (g_iinRange (a0, (a1, (a2, ())))) := by
  refine Eq.trans (b := (cond (decide (a0 ≥ a1)) (some (e_iinRange (decide (a0 ≤ a2)))) (some (e_iinRange false)))) (by kernel_rfl) ?_
  exact (cnd (F := fun r => some (e_iinRange r)) (fun _h => rfl) (fun _h => rfl))
theorem run_iinRange : ∀ d, pre_iinRange d = true → runP true Try.prog tt S2 QF2 (fun _ _ => none) Try.f89 (argsMk P_iinRange d) = some (g_iinRange d) := fun d hp => runA_iinRange d.1 d.2.1 d.2.2.1
theorem c_iinRange : PContract Try.prog 89 (sumOf P_iinRange pre_iinRange g_iinRange) := PContract.of_data true G2 (fn := Try.f89) (by kernel_rfl) (L := fun _ _ => none) (by rw [show loopsIn 0 (bodyOf Try.f89) = [] by kernel_rfl]; simp) P_iinRange pre_iinRange g_iinRange run_iinRange
def S3 : Tab := Tab.add S2 89 (lift (sumOf P_iinRange pre_iinRange g_iinRange))
def QF3 : FuncId → Bool := qadd QF2 89
theorem G3 : Good Try.prog tt S3 QF3 := G2.addQ c_iinRange ⟨Try.f89, by kernel_rfl, by kernel_rfl, by kernel_rfl⟩ (fun _ => rfl)

/-! 31 loop.example/g00244/impl.CoordNew -/
abbrev P_iCoordNew : List PSh := [.t (.int .i64)]
def iCoordNew (a0 : Int) : Int × Int × Int × (List (Int × (List (Int × ByteArray × ByteArray)) × Int × List Int)) × (List (Int × Bool)) × Int := (cond (!(iinRange a0 (1 : Int) (8 : Int))) ((0 : Int), (0 : Int), (0 : Int), [], [], (0 : Int)) (a0, (1 : Int), (0 : Int), [], [], (0 : Int)))
abbrev e_iCoordNew (r : Int × Int × Int × (List (Int × (List (Int × ByteArray × ByteArray)) × Int × List Int)) × (List (Int × Bool)) × Int) : AV × List AObj := ((.agg [(.t true (.int .i64) r.1), (.t true (.int .i64) r.2.1), (.t true (.int .i64) r.2.2.1), (.t true (.sl (.pair (.int .i64) (.pair (.sl (.pair (.int .i64) (.pair .str .str))) (.pair (.int .i64) (.sl (.int .i64)))))) r.2.2.2.1), (.t true (.sl (.pair (.int .i64) .bool)) r.2.2.2.2.1), (.t true (.int .i64) r.2.2.2.2.2)]), [])
abbrev g_iCoordNew : pshsDen P_iCoordNew → AV × List AObj := fun d => e_iCoordNew (iCoordNew d.1)
abbrev pre_iCoordNew : pshsDen P_iCoordNew → Bool := fun d => true
theorem runA_iCoordNew (a0 : Int) : runP true Try.prog tt S3 QF3 (fun _ _ => none) Try.f31 (argsMk P_iCoordNew (a0, ())) = some (g_iCoordNew (a0, ())) := by
  refine Eq.trans (b := (cond (!(iinRange a0 (1 : Int) (8 : Int))) (some (e_iCoordNew ((0 : Int), (0 : Int), (0 : Int), [], [], (0 : Int)))) (some (e_iCoordNew (a0, (1 : Int), (0 : Int), [], [], (0 : Int)))))) (by kernel_rfl) ?_
  exact (cnd (F := fun r => some (e_iCoordNew r)) (fun _h => rfl) (fun _h => rfl))
theorem run_iCoordNew : ∀ d, pre_iCoordNew d = true → runP true Try.prog tt S3 QF3 (fun _ _ => none) Try.f31 (argsMk P_iCoordNew d) = some (g_iCoordNew d) := fun d hp => runA_iCoordNew d.1
theorem c_iCoordNew : PContract Try.prog 31 (sumOf P_iCoordNew pre_iCoordNew g_iCoordNew) := PContract.of_data true G3 (fn := Try.f31) (by kernel_rfl) (L := fun _ _ => none) (by rw [show loopsIn 0 (bodyOf Try.f31) = [] by kernel_rfl]; simp) P_iCoordNew pre_iCoordNew g_iCoordNew run_iCoordNew
def S4 : Tab := Tab.add S3 31 (lift (sumOf P_iCoordNew pre_iCoordNew g_iCoordNew))
def QF4 : FuncId → Bool := qadd QF3 31
theorem G4 : Good Try.prog tt S4 QF4 := G3.addQ c_iCoordNew ⟨Try.f31, by kernel_rfl, by kernel_rfl, by kernel_rfl⟩ (fun _ => rfl)

/-! 111 loop.example/g00244/laws.eqOp -/
abbrev P_leqOp : List PSh := [.agg [(.int .i64), .str, .str], .agg [(.int .i64), .str, .str]]
def leqOp (a0 : Int) (a1 : ByteArray) (a2 : ByteArray) (a3 : Int) (a4 : ByteArray) (a5 : ByteArray) : Bool := (cond (a0 != a3) false (cond (!(a1.toList == a4.toList)) false (cond (!(a2.toList == a5.toList)) false true)))
abbrev e_leqOp (r : Bool) : AV × List AObj := ((.t true .bool r), [])
abbrev g_leqOp : pshsDen P_leqOp → AV × List AObj := fun d => e_leqOp (leqOp d.1.1 d.1.2.1 d.1.2.2.1 d.2.1.1 d.2.1.2.1 d.2.1.2.2.1)
abbrev pre_leqOp : pshsDen P_leqOp → Bool := fun d => true
theorem runA_leqOp (a0 : Int) (a1 : ByteArray) (a2 : ByteArray) (a3 : Int) (a4 : ByteArray) (a5 : ByteArray) : runP true Try.prog tt S4 QF4 (fun _ _ => none) Try.f111 (argsMk P_leqOp ((a0, (a1, (a2, ()))), ((a3, (a4, (a5, ()))), ()))) = some (g_leqOp ((a0, (a1, (a2, ()))), ((a3, (a4, (a5, ()))), ()))) := by
  refine Eq.trans (b := (cond (a0 != a3) (some (e_leqOp false)) (cond (!(a1.toList == a4.toList)) (some (e_leqOp false)) (cond (!(a2.toList == a5.toList)) (some (e_leqOp false)) (some (e_leqOp true)))))) (by kernel_rfl) ?_
  exact (cnd (F := fun r => some (e_leqOp r)) (fun _h => rfl) (fun _h => (cnd (F := fun r => some (e_leqOp r)) (fun _h => rfl) (fun _h => (cnd (F := fun r => some (e_leqOp r)) (fun _h => rfl) (fun _h => rfl))))))
theorem run_leqOp : ∀ d, pre_leqOp d = true → runP true Try.prog tt S4 QF4 (fun _ _ => none) Try.f111 (argsMk P_leqOp d) = some (g_leqOp d) := fun d hp => runA_leqOp d.1.1 d.1.2.1 d.1.2.2.1 d.2.1.1 d.2.1.2.1 d.2.1.2.2.1
theorem c_leqOp : PContract Try.prog 111 (sumOf P_leqOp pre_leqOp g_leqOp) := PContract.of_data true G4 (fn := Try.f111) (by kernel_rfl) (L := fun _ _ => none) (by rw [show loopsIn 0 (bodyOf Try.f111) = [] by kernel_rfl]; simp) P_leqOp pre_leqOp g_leqOp run_leqOp
def S5 : Tab := Tab.add S4 111 (lift (sumOf P_leqOp pre_leqOp g_leqOp))
def QF5 : FuncId → Bool := qadd QF4 111
theorem G5 : Good Try.prog tt S5 QF5 := G4.addQ c_leqOp ⟨Try.f111, by kernel_rfl, by kernel_rfl, by kernel_rfl⟩ (fun _ => rfl)

/-! 48 loop.example/g00244/laws.eqOpS -/

def f_leqOpS_0 (x0 x1 : List (Int × ByteArray × ByteArray)) (i : Nat) : Bool := !(!(leqOp ((x0.getD i ((0 : Int), ((⟨#[]⟩ : ByteArray), (⟨#[]⟩ : ByteArray)))).1) (((x0.getD i ((0 : Int), ((⟨#[]⟩ : ByteArray), (⟨#[]⟩ : ByteArray)))).2).1) (((x0.getD i ((0 : Int), ((⟨#[]⟩ : ByteArray), (⟨#[]⟩ : ByteArray)))).2).2) ((x1.getD i ((0 : Int), ((⟨#[]⟩ : ByteArray), (⟨#[]⟩ : ByteArray)))).1) (((x1.getD i ((0 : Int), ((⟨#[]⟩ : ByteArray), (⟨#[]⟩ : ByteArray)))).2).1) (((x1.getD i ((0 : Int), ((⟨#[]⟩ : ByteArray), (⟨#[]⟩ : ByteArray)))).2).2)))
abbrev P_leqOpS : List PSh := [.t (.sl (.pair (.int .i64) (.pair .str .str))), .t (.sl (.pair (.int .i64) (.pair .str .str)))]
abbrev S_leqOpS_0 : SS := ⟨[.t false (.sl (.pair (.int .i64) (.pair .str .str))), .t false (.sl (.pair (.int .i64) (.pair .str .str))), .junk, .junk, .junk, .t true (.int .i64), .junk, .junk, .junk, .junk, .junk, .junk, .junk, .junk, .junk, .junk, .junk, .junk, .junk, .junk, .junk, .junk, .junk, .junk, .junk, .junk, .junk], []⟩
abbrev E_leqOpS_0_0 : SS := ⟨[.junk, .junk, .junk, .junk, .t true .bool, .junk, .junk, .junk, .junk, .junk, .junk, .junk, .junk, .junk, .junk, .junk, .junk, .junk, .junk, .junk, .junk, .junk, .junk, .junk, .junk, .junk, .junk], []⟩
abbrev E_leqOpS_0_1 : SS := ⟨[.junk, .junk, .junk, .junk, .junk, .junk, .junk, .junk, .junk, .junk, .junk, .junk, .junk, .junk, .junk, .junk, .junk, .junk, .junk, .junk, .junk, .junk, .junk, .junk, .junk, .junk, .junk], []⟩
def st_leqOpS_0 (x0 : List (Int × ByteArray × ByteArray)) (x1 : List (Int × ByteArray × ByteArray)) (x5 : Int) : RT S_leqOpS_0.den := (.br (decide (x5 < ((x0.length : Nat) : Int))) (.br (decide (0 ≤ x5 ∧ x5 < ((x0.length : Nat) : Int))) (.br (decide (0 ≤ x5 ∧ x5 < ((x1.length : Nat) : Int))) (.br (!(leqOp ((x0.getD x5.toNat ((0 : Int), ((⟨#[]⟩ : ByteArray), (⟨#[]⟩ : ByteArray)))).1) (((x0.getD x5.toNat ((0 : Int), ((⟨#[]⟩ : ByteArray), (⟨#[]⟩ : ByteArray)))).2).1) (((x0.getD x5.toNat ((0 : Int), ((⟨#[]⟩ : ByteArray), (⟨#[]⟩ : ByteArray)))).2).2) ((x1.getD x5.toNat ((0 : Int), ((⟨#[]⟩ : ByteArray), (⟨#[]⟩ : ByteArray)))).1) (((x1.getD x5.toNat ((0 : Int), ((⟨#[]⟩ : ByteArray), (⟨#[]⟩ : ByteArray)))).2).1) (((x1.getD x5.toNat ((0 : Int), ((⟨#[]⟩ : ByteArray), (⟨#[]⟩ : ByteArray)))).2).2))) (.done .ret E_leqOpS_0_0 (((), (), (), (), false, (), (), (), (), (), (), (), (), (), (), (), (), (), (), (), (), (), (), (), (), (), (), ()), ())) (.next ((x0, x1, (), (), (), IntKind.wrap .i64 (x5 + (1 : Int)), (), (), (), (), (), (), (), (), (), (), (), (), (), (), (), (), (), (), (), (), (), ()), ()))) .fail) .fail) (.done (.exit 0) E_leqOpS_0_1 (((), (), (), (), (), (), (), (), (), (), (), (), (), (), (), (), (), (), (), (), (), (), (), (), (), (), (), ()), ())))
def T_leqOpS_0 (x0 : List (Int × ByteArray × ByteArray)) (x1 : List (Int × ByteArray × ByteArray)) (x5 : Int) : CT := (.br (decide (0 ≤ x5) && (decide (x0.length = x1.length) && okL x0)) (.br (allF (f_leqOpS_0 x0 x1) (x0.length - x5.toNat) x5.toNat) (.done (.exit 0) E_leqOpS_0_1 (((), (), (), (), (), (), (), (), (), (), (), (), (), (), (), (), (), (), (), (), (), (), (), (), (), (), (), ()), ())) (.done .ret E_leqOpS_0_0 (((), (), (), (), false, (), (), (), (), (), (), (), (), (), (), (), (), (), (), (), (), (), (), (), (), (), (), ()), ()))) .fail)
abbrev sp_leqOpS_0 : S_leqOpS_0.den → RT S_leqOpS_0.den := fun d => st_leqOpS_0 d.1.1 d.1.2.1 d.1.2.2.2.2.2.1
abbrev pk_leqOpS_0 (x0 : List (Int × ByteArray × ByteArray)) (x1 : List (Int × ByteArray × ByteArray)) (x5 : Int) : S_leqOpS_0.den := ((x0, x1, (), (), (), x5, (), (), (), (), (), (), (), (), (), (), (), (), (), (), (), (), (), (), (), (), (), ()), ())
noncomputable def body_leqOpS_0 : Code := ((loopsIn 0 (bodyOf Try.f48)).getD 0 (0, .skip)).2
theorem R_leqOpS_0 (x0 : List (Int × ByteArray × ByteArray)) (x1 : List (Int × ByteArray × ByteArray)) (x5 : Int) : (T_leqOpS_0 x0 x1 x5).val (D := S_leqOpS_0.den) = .fail ∨ Runs sp_leqOpS_0 (pk_leqOpS_0 x0 x1 x5) (T_leqOpS_0 x0 x1 x5).val := by
  cases hc : (decide (0 ≤ x5) && (decide (x0.length = x1.length) && okL x0)) with
  | false => left; simp only [T_leqOpS_0, CT.val, hc, cond_false]
  | true =>
    right
    simp only [T_leqOpS_0, CT.val, hc, cond_true]
    simp only [Bool.and_eq_true, decide_eq_true_eq] at hc
    obtain ⟨i, rfl⟩ := Int.eq_ofNat_of_zero_le hc.1
    have hs := okL_le hc.2.2
    simp only [Int.toNat_natCast]
    refine Runs.scan (fun j => pk_leqOpS_0 x0 x1 (j : Int)) (x0.length) (f_leqOpS_0 x0 x1) (fun i hi => ?_) (fun i hi => ?_) ⟨_, _, _, rfl, by simp⟩ ⟨_, _, _, rfl, by simp⟩ _ _ rfl
    · 
      have h0a : decide ((i : Int) < ((x0.length : Nat) : Int)) = true := decide_eq_true (by omega)
      have h0b : decide (0 ≤ (i : Int) ∧ (i : Int) < ((x0.length : Nat) : Int)) = true := decide_eq_true (by omega)
      simp only [sp_leqOpS_0, st_leqOpS_0, RT.val, h0a, h0b, cond_true, wrapS i (by omega), Int.toNat_natCast]
      have h9 : decide (0 ≤ (i : Int) ∧ (i : Int) < ((x1.length : Nat) : Int)) = true := decide_eq_true (by omega)
      simp only [h9, cond_true]
      simp only [f_leqOpS_0]
      generalize (!(leqOp ((x0.getD i ((0 : Int), ((⟨#[]⟩ : ByteArray), (⟨#[]⟩ : ByteArray)))).1) (((x0.getD i ((0 : Int), ((⟨#[]⟩ : ByteArray), (⟨#[]⟩ : ByteArray)))).2).1) (((x0.getD i ((0 : Int), ((⟨#[]⟩ : ByteArray), (⟨#[]⟩ : ByteArray)))).2).2) ((x1.getD i ((0 : Int), ((⟨#[]⟩ : ByteArray), (⟨#[]⟩ : ByteArray)))).1) (((x1.getD i ((0 : Int), ((⟨#[]⟩ : ByteArray), (⟨#[]⟩ : ByteArray)))).2).1) (((x1.getD i ((0 : Int), ((⟨#[]⟩ : ByteArray), (⟨#[]⟩ : ByteArray)))).2).2))) = c
      cases c <;> rfl
    · have h1 : decide ((i : Int) < ((x0.length : Nat) : Int)) = false := decide_eq_false (by omega)
      simp only [sp_leqOpS_0, st_leqOpS_0, RT.val, h1, cond_false]
theorem rd_leqOpS_0 : ∀ d base killed, execC Try.prog tt S5 QF5 (fun _ _ => none) 0 body_leqOpS_0 (S_leqOpS_0.st d base killed) (fun e s' => some (e, S_leqOpS_0.cutE (kepts [4] [(0, [])]) e s')) = (sp_leqOpS_0 d).opt base killed := by
  intro d base killed
  kernel_rfl
abbrev say_leqOpS_0 : St → Option Tree := S_leqOpS_0.say [] (fun d => T_leqOpS_0 d.1.1 d.1.2.1 d.1.2.2.2.2.2.1)
theorem lw_leqOpS_0 : LoopWp Try.prog say_leqOpS_0 body_leqOpS_0 := SS.wp G5 (fun _ _ => none) (by rw [show loopsIn 0 body_leqOpS_0 = [] by kernel_rfl]; simp) S_leqOpS_0 (kepts [4] [(0, [])]) [] sp_leqOpS_0 rd_leqOpS_0 _ (fun d => R_leqOpS_0 d.1.1 d.1.2.1 d.1.2.2.2.2.2.1)
def leqOpS (a0 : List (Int × ByteArray × ByteArray)) (a1 : List (Int × ByteArray × ByteArray)) : Bool := (cond (((a0.length : Nat) : Int) != ((a1.length : Nat) : Int)) false (cond (allF (f_leqOpS_0 a0 a1) (a0.length - (0 : Int).toNat) (0 : Int).toNat) true false))
abbrev e_leqOpS (r : Bool) : AV × List AObj := ((.t true .bool r), [])
abbrev g_leqOpS : pshsDen P_leqOpS → AV × List AObj := fun d => e_leqOpS (leqOpS d.1 d.2.1)
def q_leqOpS (a0 : List (Int × ByteArray × ByteArray)) (a1 : List (Int × ByteArray × ByteArray)) : Bool := okL a0
abbrev pre_leqOpS : pshsDen P_leqOpS → Bool := fun d => q_leqOpS d.1 d.2.1
theorem runA_leqOpS (a0 : List (Int × ByteArray × ByteArray)) (a1 : List (Int × ByteArray × ByteArray)) (hp : (okL a0) = true) : runP true Try.prog tt S5 QF5 (fun b => match b with | 0 => say_leqOpS_0 | _ => fun _ => none) Try.f48 (argsMk P_leqOpS (a0, (a1, ()))) = some (g_leqOpS (a0, (a1, ()))) := by
  refine Eq.trans (b := (cond (((a0.length : Nat) : Int) != ((a1.length : Nat) : Int)) (some (e_leqOpS false)) (cond (decide (0 ≤ (0 : Int)) && (decide (a0.length = a1.length) && okL a0)) (cond (allF (f_leqOpS_0 a0 a1) (a0.length - (0 : Int).toNat) (0 : Int).toNat) (some (e_leqOpS true)) (some (e_leqOpS false))) none))) (by kernel_rfl) ?_
  exact (cnd (F := fun r => some (e_leqOpS r)) (fun _h => rfl) (fun _h => (cndT (by simp only [okL, Bool.and_eq_true, decide_eq_true_eq] at hp ⊢; simp at _h; exact ⟨Int.le_refl 0, by omega, hp⟩) (fun _h => (cnd (F := fun r => some (e_leqOpS r)) (fun _h => rfl) (fun _h => rfl))))))
theorem run_leqOpS : ∀ d, pre_leqOpS d = true → runP true Try.prog tt S5 QF5 (fun b => match b with | 0 => say_leqOpS_0 | _ => fun _ => none) Try.f48 (argsMk P_leqOpS d) = some (g_leqOpS d) := fun d hp => runA_leqOpS d.1 d.2.1 hp
theorem c_leqOpS : PContract Try.prog 48 (sumOf P_leqOpS pre_leqOpS g_leqOpS) := PContract.of_data true G5 (fn := Try.f48) (by kernel_rfl) (L := fun b => match b with | 0 => say_leqOpS_0 | _ => fun _ => none) (by rw [show loopsIn 0 (bodyOf Try.f48) = [(0, body_leqOpS_0)] by kernel_rfl]; intro p hp; simp only [List.mem_singleton] at hp; subst hp; exact lw_leqOpS_0) P_leqOpS pre_leqOpS g_leqOpS run_leqOpS
def S6 : Tab := Tab.add S5 48 (lift (sumOf P_leqOpS pre_leqOpS g_leqOpS))
def QF6 : FuncId → Bool := qadd QF5 48
theorem G6 : Good Try.prog tt S6 QF6 := G5.addQ c_leqOpS ⟨Try.f48, by kernel_rfl, by kernel_rfl, by kernel_rfl⟩ (fun _ => rfl)

/-! 80 loop.example/g00244/laws.eqIntS -/

def f_leqIntS_0 (x0 x1 : List Int) (i : Nat) : Bool := !((x0.getD i (0 : Int)) != (x1.getD i (0 : Int)))
abbrev P_leqIntS : List PSh := [.t (.sl (.int .i64)), .t (.sl (.int .i64))]
abbrev S_leqIntS_0 : SS := ⟨[.t false (.sl (.int .i64)), .t false (.sl (.int .i64)), .junk, .junk, .junk, .t true (.int .i64), .junk, .junk, .junk, .junk, .junk, .junk, .junk, .junk, .junk, .junk, .junk, .junk, .junk, .junk, .junk, .junk, .junk, .junk, .junk, .junk], []⟩
abbrev E_leqIntS_0_0 : SS := ⟨[.junk, .junk, .junk, .junk, .t true .bool, .junk, .junk, .junk, .junk, .junk, .junk, .junk, .junk, .junk, .junk, .junk, .junk, .junk, .junk, .junk, .junk, .junk, .junk, .junk, .junk, .junk], []⟩
abbrev E_leqIntS_0_1 : SS := ⟨[.junk, .junk, .junk, .junk, .junk, .junk, .junk, .junk, .junk, .junk, .junk, .junk, .junk, .junk, .junk, .junk, .junk, .junk, .junk, .junk, .junk, .junk, .junk, .junk, .junk, .junk], []⟩
def st_leqIntS_0 (x0 : List Int) (x1 : List Int) (x5 : Int) : RT S_leqIntS_0.den := (.br (decide (x5 < ((x0.length : Nat) : Int))) (.br (decide (0 ≤ x5 ∧ x5 < ((x0.length : Nat) : Int))) (.br (decide (0 ≤ x5 ∧ x5 < ((x1.length : Nat) : Int))) (.br ((x0.getD x5.toNat (0 : Int)) != (x1.getD x5.toNat (0 : Int))) (.done .ret E_leqIntS_0_0 (((), (), (), (), false, (), (), (), (), (), (), (), (), (), (), (), (), (), (), (), (), (), (), (), (), (), ()), ())) (.next ((x0, x1, (), (), (), IntKind.wrap .i64 (x5 + (1 : Int)), (), (), (), (), (), (), (), (), (), (), (), (), (), (), (), (), (), (), (), (), ()), ()))) .fail) .fail) (.done (.exit 0) E_leqIntS_0_1 (((), (), (), (), (), (), (), (), (), (), (), (), (), (), (), (), (), (), (), (), (), (), (), (), (), (), ()), ())))
def T_leqIntS_0 (x0 : List Int) (x1 : List Int) (x5 : Int) : CT := (.br (decide (0 ≤ x5) && (decide (x0.length = x1.length) && okL x0)) (.br (allF (f_leqIntS_0 x0 x1) (x0.length - x5.toNat) x5.toNat) (.done (.exit 0) E_leqIntS_0_1 (((), (), (), (), (), (), (), (), (), (), (), (), (), (), (), (), (), (), (), (), (), (), (), (), (), (), ()), ())) (.done .ret E_leqIntS_0_0 (((), (), (), (), false, (), (), (), (), (), (), (), (), (), (), (), (), (), (), (), (), (), (), (), (), (), ()), ()))) .fail)
abbrev sp_leqIntS_0 : S_leqIntS_0.den → RT S_leqIntS_0.den := fun d => st_leqIntS_0 d.1.1 d.1.2.1 d.1.2.2.2.2.2.1
abbrev pk_leqIntS_0 (x0 : List Int) (x1 : List Int) (x5 : Int) : S_leqIntS_0.den := ((x0, x1, (), (), (), x5, (), (), (), (), (), (), (), (), (), (), (), (), (), (), (), (), (), (), (), (), ()), ())
noncomputable def body_leqIntS_0 : Code := ((loopsIn 0 (bodyOf Try.f80)).getD 0 (0, .skip)).2
theorem R_leqIntS_0 (x0 : List Int) (x1 : List Int) (x5 : Int) : (T_leqIntS_0 x0 x1 x5).val (D := S_leqIntS_0.den) = .fail ∨ Runs sp_leqIntS_0 (pk_leqIntS_0 x0 x1 x5) (T_leqIntS_0 x0 x1 x5).val := by
  cases hc : (decide (0 ≤ x5) && (decide (x0.length = x1.length) && okL x0)) with
  | false => left; simp only [T_leqIntS_0, CT.val, hc, cond_false]
  | true =>
    right
    simp only [T_leqIntS_0, CT.val, hc, cond_true]
    simp only [Bool.and_eq_true, decide_eq_true_eq] at hc
    obtain ⟨i, rfl⟩ := Int.eq_ofNat_of_zero_le hc.1
    have hs := okL_le hc.2.2
    simp only [Int.toNat_natCast]
    refine Runs.scan (fun j => pk_leqIntS_0 x0 x1 (j : Int)) (x0.length) (f_leqIntS_0 x0 x1) (fun i hi => ?_) (fun i hi => ?_) ⟨_, _, _, rfl, by simp⟩ ⟨_, _, _, rfl, by simp⟩ _ _ rfl
    · 
      have h0a : decide ((i : Int) < ((x0.length : Nat) : Int)) = true := decide_eq_true (by omega)
      have h0b : decide (0 ≤ (i : Int) ∧ (i : Int) < ((x0.length : Nat) : Int)) = true := decide_eq_true (by omega)
      simp only [sp_leqIntS_0, st_leqIntS_0, RT.val, h0a, h0b, cond_true, wrapS i (by omega), Int.toNat_natCast]
      have h9 : decide (0 ≤ (i : Int) ∧ (i : Int) < ((x1.length : Nat) : Int)) = true := decide_eq_true (by omega)
      simp only [h9, cond_true]
      simp only [f_leqIntS_0]
      generalize ((x0.getD i (0 : Int)) != (x1.getD i (0 : Int))) = c
      cases c <;> rfl
    · have h1 : decide ((i : Int) < ((x0.length : Nat) : Int)) = false := decide_eq_false (by omega)
      simp only [sp_leqIntS_0, st_leqIntS_0, RT.val, h1, cond_false]
theorem rd_leqIntS_0 : ∀ d base killed, execC Try.prog tt S6 QF6 (fun _ _ => none) 0 body_leqIntS_0 (S_leqIntS_0.st d base killed) (fun e s' => some (e, S_leqIntS_0.cutE (kepts [4] [(0, [])]) e s')) = (sp_leqIntS_0 d).opt base killed := by
  intro d base killed
  kernel_rfl
abbrev say_leqIntS_0 : St → Option Tree := S_leqIntS_0.say [] (fun d => T_leqIntS_0 d.1.1 d.1.2.1 d.1.2.2.2.2.2.1)
theorem lw_leqIntS_0 : LoopWp Try.prog say_leqIntS_0 body_leqIntS_0 := SS.wp G6 (fun _ _ => none) (by rw [show loopsIn 0 body_leqIntS_0 = [] by kernel_rfl]; simp) S_leqIntS_0 (kepts [4] [(0, [])]) [] sp_leqIntS_0 rd_leqIntS_0 _ (fun d => R_leqIntS_0 d.1.1 d.1.2.1 d.1.2.2.2.2.2.1)
def leqIntS (a0 : List Int) (a1 : List Int) : Bool := (cond (((a0.length : Nat) : Int) != ((a1.length : Nat) : Int)) false (cond (allF (f_leqIntS_0 a0 a1) (a0.length - (0 : Int).toNat) (0 : Int).toNat) true false))
abbrev e_leqIntS (r : Bool) : AV × List AObj := ((.t true .bool r), [])
abbrev g_leqIntS : pshsDen P_leqIntS → AV × List AObj := fun d => e_leqIntS (leqIntS d.1 d.2.1)
def q_leqIntS (a0 : List Int) (a1 : List Int) : Bool := okL a0
abbrev pre_leqIntS : pshsDen P_leqIntS → Bool := fun d => q_leqIntS d.1 d.2.1
theorem runA_leqIntS (a0 : List Int) (a1 : List Int) (hp : (okL a0) = true) : runP true Try.prog tt S6 QF6 (fun b => match b with | 0 => say_leqIntS_0 | _ => fun _ => none) Try.f80 (argsMk P_leqIntS (a0, (a1, ()))) = some (g_leqIntS (a0, (a1, ()))) := by
  refine Eq.trans (b := (cond (((a0.length : Nat) : Int) != ((a1.length : Nat) : Int)) (some (e_leqIntS false)) (cond (decide (0 ≤ (0 : Int)) && (decide (a0.length = a1.length) && okL a0)) (cond (allF (f_leqIntS_0 a0 a1) (a0.length - (0 : Int).toNat) (0 : Int).toNat) (some (e_leqIntS true)) (some (e_leqIntS false))) none))) (by kernel_rfl) ?_
  exact (cnd (F := fun r => some (e_leqIntS r)) (fun _h => rfl) (fun _h => (cndT (by simp only [okL, Bool.and_eq_true, decide_eq_true_eq] at hp ⊢; simp at _h; exact ⟨Int.le_refl 0, by omega, hp⟩) (fun _h => (cnd (F := fun r => some (e_leqIntS r)) (fun _h => rfl) (fun _h => rfl))))))
theorem run_leqIntS : ∀ d, pre_leqIntS d = true → runP true Try.prog tt S6 QF6 (fun b => match b with | 0 => say_leqIntS_0 | _ => fun _ => none) Try.f80 (argsMk P_leqIntS d) = some (g_leqIntS d) := fun d hp => runA_leqIntS d.1 d.2.1 hp
theorem c_leqIntS : PContract Try.prog 80 (sumOf P_leqIntS pre_leqIntS g_leqIntS) := PContract.of_data true G6 (fn := Try.f80) (by kernel_rfl) (L := fun b => match b with | 0 => say_leqIntS_0 | _ => fun _ => none) (by rw [show loopsIn 0 (bodyOf Try.f80) = [(0, body_leqIntS_0)] by kernel_rfl]; intro p hp; simp only [List.mem_singleton] at hp; subst hp; exact lw_leqIntS_0) P_leqIntS pre_leqIntS g_leqIntS run_leqIntS
def S7 : Tab := Tab.add S6 80 (lift (sumOf P_leqIntS pre_leqIntS g_leqIntS))
def QF7 : FuncId → Bool := qadd QF6 80
theorem G7 : Good Try.prog tt S7 QF7 := G6.addQ c_leqIntS ⟨Try.f80, by kernel_rfl, by kernel_rfl, by kernel_rfl⟩ (fun _ => rfl)

/-! 138 loop.example/g00244/laws.eqJob -/
abbrev P_leqJob : List PSh := [.agg [(.int .i64), (.sl (.pair (.int .i64) (.pair .str .str))), (.int .i64), (.sl (.int .i64))], .agg [(.int .i64), (.sl (.pair (.int .i64) (.pair .str .str))), (.int .i64), (.sl (.int .i64))]]
def leqJob (a0 : Int) (a1 : List (Int × ByteArray × ByteArray)) (a2 : Int) (a3 : List Int) (a4 : Int) (a5 : List (Int × ByteArray × ByteArray)) (a6 : Int) (a7 : List Int) : Bool := (cond (a0 != a4) false (cond (!(leqOpS a1 a5)) false (cond (a2 != a6) false (cond (!(leqIntS a3 a7)) false true))))
abbrev e_leqJob (r : Bool) : AV × List AObj := ((.t true .bool r), [])
abbrev g_leqJob : pshsDen P_leqJob → AV × List AObj := fun d => e_leqJob (leqJob d.1.1 d.1.2.1 d.1.2.2.1 d.1.2.2.2.1 d.2.1.1 d.2.1.2.1 d.2.1.2.2.1 d.2.1.2.2.2.1)
def q_leqJob (a0 : Int) (a1 : List (Int × ByteArray × ByteArray)) (a2 : Int) (a3 : List Int) (a4 : Int) (a5 : List (Int × ByteArray × ByteArray)) (a6 : Int) (a7 : List Int) : Bool := (q_leqOpS a1 a5) && (q_leqIntS a3 a7)
abbrev pre_leqJob : pshsDen P_leqJob → Bool := fun d => q_leqJob d.1.1 d.1.2.1 d.1.2.2.1 d.1.2.2.2.1 d.2.1.1 d.2.1.2.1 d.2.1.2.2.1 d.2.1.2.2.2.1
theorem runA_leqJob (a0 : Int) (a1 : List (Int × ByteArray × ByteArray)) (a2 : Int) (a3 : List Int) (a4 : Int) (a5 : List (Int × ByteArray × ByteArray)) (a6 : Int) (a7 : List Int) (hp : ((q_leqOpS a1 a5) && (q_leqIntS a3 a7)) = true) : runP true Try.prog tt S7 QF7 (fun _ _ => none) Try.f138 (argsMk P_leqJob ((a0, (a1, (a2, (a3, ())))), ((a4, (a5, (a6, (a7, ())))), ()))) = some (g_leqJob ((a0, (a1, (a2, (a3, ())))), ((a4, (a5, (a6, (a7, ())))), ()))) := by
  refine Eq.trans (b := (cond (a0 != a4) (some (e_leqJob false)) (cond (q_leqOpS a1 a5) (cond (!(leqOpS a1 a5)) (some (e_leqJob false)) (cond (a2 != a6) (some (e_leqJob false)) (cond (q_leqIntS a3 a7) (cond (!(leqIntS a3 a7)) (some (e_leqJob false)) (some (e_leqJob true))) none))) none))) (by kernel_rfl) ?_
  exact (cnd (F := fun r => some (e_leqJob r)) (fun _h => rfl) (fun _h => (cndT (by first | rfl | decide | exact hp | (simp only [Bool.and_eq_true] at hp; simp only [hp]; done) | (simp [*]; done) | (simp [okL] at hp; simp [okL, MAXB]; omega) | (simp_all; done) | (simp at *; omega)) (fun _h => (cnd (F := fun r => some (e_leqJob r)) (fun _h => rfl) (fun _h => (cnd (F := fun r => some (e_leqJob r)) (fun _h => rfl) (fun _h => (cndT (by first | rfl | decide | exact hp | (simp only [Bool.and_eq_true] at hp; simp only [hp]; done) | (simp [*]; done) | (simp [okL] at hp; simp [okL, MAXB]; omega) | (simp_all; done) | (simp at *; omega)) (fun _h => (cnd (F := fun r => some (e_leqJob r)) (fun _h => rfl) (fun _h => rfl))))))))))))
theorem run_leqJob : ∀ d, pre_leqJob d = true → runP true Try.prog tt S7 QF7 (fun _ _ => none) Try.f138 (argsMk P_leqJob d) = some (g_leqJob d) := fun d hp => runA_leqJob d.1.1 d.1.2.1 d.1.2.2.1 d.1.2.2.2.1 d.2.1.1 d.2.1.2.1 d.2.1.2.2.1 d.2.1.2.2.2.1 hp
theorem c_leqJob : PContract Try.prog 138 (sumOf P_leqJob pre_leqJob g_leqJob) := PContract.of_data true G7 (fn := Try.f138) (by kernel_rfl) (L := fun _ _ => none) (by rw [show loopsIn 0 (bodyOf Try.f138) = [] by kernel_rfl]; simp) P_leqJob pre_leqJob g_leqJob run_leqJob
def S8 : Tab := Tab.add S7 138 (lift (sumOf P_leqJob pre_leqJob g_leqJob))
def QF8 : FuncId → Bool := qadd QF7 138
theorem G8 : Good Try.prog tt S8 QF8 := G7.addQ c_leqJob ⟨Try.f138, by kernel_rfl, by kernel_rfl, by kernel_rfl⟩ (fun _ => rfl)

/-! 90 loop.example/g00244/laws.eqJobS -/

def f_leqJobS_0 (x0 x1 : List (Int × (List (Int × ByteArray × ByteArray)) × Int × List Int)) (i : Nat) : Bool := !(!(leqJob ((x0.getD i ((0 : Int), ([], ((0 : Int), [])))).1) (((x0.getD i ((0 : Int), ([], ((0 : Int), [])))).2).1) ((((x0.getD i ((0 : Int), ([], ((0 : Int), [])))).2).2).1) ((((x0.getD i ((0 : Int), ([], ((0 : Int), [])))).2).2).2) ((x1.getD i ((0 : Int), ([], ((0 : Int), [])))).1) (((x1.getD i ((0 : Int), ([], ((0 : Int), [])))).2).1) ((((x1.getD i ((0 : Int), ([], ((0 : Int), [])))).2).2).1) ((((x1.getD i ((0 : Int), ([], ((0 : Int), [])))).2).2).2)))
def qs_leqJobS_0 (x0 x1 : List (Int × (List (Int × ByteArray × ByteArray)) × Int × List Int)) (i : Nat) : Bool := (q_leqJob ((x0.getD i ((0 : Int), ([], ((0 : Int), [])))).1) (((x0.getD i ((0 : Int), ([], ((0 : Int), [])))).2).1) ((((x0.getD i ((0 : Int), ([], ((0 : Int), [])))).2).2).1) ((((x0.getD i ((0 : Int), ([], ((0 : Int), [])))).2).2).2) ((x1.getD i ((0 : Int), ([], ((0 : Int), [])))).1) (((x1.getD i ((0 : Int), ([], ((0 : Int), [])))).2).1) ((((x1.getD i ((0 : Int), ([], ((0 : Int), [])))).2).2).1) ((((x1.getD i ((0 : Int), ([], ((0 : Int), [])))).2).2).2))
abbrev P_leqJobS : List PSh := [.t (.sl (.pair (.int .i64) (.pair (.sl (.pair (.int .i64) (.pair .str .str))) (.pair (.int .i64) (.sl (.int .i64)))))), .t (.sl (.pair (.int .i64) (.pair (.sl (.pair (.int .i64) (.pair .str .str))) (.pair (.int .i64) (.sl (.int .i64))))))]
abbrev S_leqJobS_0 : SS := ⟨[.t false (.sl (.pair (.int .i64) (.pair (.sl (.pair (.int .i64) (.pair .str .str))) (.pair (.int .i64) (.sl (.int .i64)))))), .t false (.sl (.pair (.int .i64) (.pair (.sl (.pair (.int .i64) (.pair .str .str))) (.pair (.int .i64) (.sl (.int .i64)))))), .junk, .junk, .junk, .t true (.int .i64), .junk, .junk, .junk, .junk, .junk, .junk, .junk, .junk, .junk, .junk, .junk, .junk, .junk, .junk, .junk, .junk, .junk, .junk, .junk, .junk, .junk], []⟩
abbrev E_leqJobS_0_0 : SS := ⟨[.junk, .junk, .junk, .junk, .t true .bool, .junk, .junk, .junk, .junk, .junk, .junk, .junk, .junk, .junk, .junk, .junk, .junk, .junk, .junk, .junk, .junk, .junk, .junk, .junk, .junk, .junk, .junk], []⟩
abbrev E_leqJobS_0_1 : SS := ⟨[.junk, .junk, .junk, .junk, .junk, .junk, .junk, .junk, .junk, .junk, .junk, .junk, .junk, .junk, .junk, .junk, .junk, .junk, .junk, .junk, .junk, .junk, .junk, .junk, .junk, .junk, .junk], []⟩
def st_leqJobS_0 (x0 : List (Int × (List (Int × ByteArray × ByteArray)) × Int × List Int)) (x1 : List (Int × (List (Int × ByteArray × ByteArray)) × Int × List Int)) (x5 : Int) : RT S_leqJobS_0.den := (.br (decide (x5 < ((x0.length : Nat) : Int))) (.br (decide (0 ≤ x5 ∧ x5 < ((x0.length : Nat) : Int))) (.br (decide (0 ≤ x5 ∧ x5 < ((x1.length : Nat) : Int))) (.br (q_leqJob ((x0.getD x5.toNat ((0 : Int), ([], ((0 : Int), [])))).1) (((x0.getD x5.toNat ((0 : Int), ([], ((0 : Int), [])))).2).1) ((((x0.getD x5.toNat ((0 : Int), ([], ((0 : Int), [])))).2).2).1) ((((x0.getD x5.toNat ((0 : Int), ([], ((0 : Int), [])))).2).2).2) ((x1.getD x5.toNat ((0 : Int), ([], ((0 : Int), [])))).1) (((x1.getD x5.toNat ((0 : Int), ([], ((0 : Int), [])))).2).1) ((((x1.getD x5.toNat ((0 : Int), ([], ((0 : Int), [])))).2).2).1) ((((x1.getD x5.toNat ((0 : Int), ([], ((0 : Int), [])))).2).2).2)) (.br (!(leqJob ((x0.getD x5.toNat ((0 : Int), ([], ((0 : Int), [])))).1) (((x0.getD x5.toNat ((0 : Int), ([], ((0 : Int), [])))).2).1) ((((x0.getD x5.toNat ((0 : Int), ([], ((0 : Int), [])))).2).2).1) ((((x0.getD x5.toNat ((0 : Int), ([], ((0 : Int), [])))).2).2).2) ((x1.getD x5.toNat ((0 : Int), ([], ((0 : Int), [])))).1) (((x1.getD x5.toNat ((0 : Int), ([], ((0 : Int), [])))).2).1) ((((x1.getD x5.toNat ((0 : Int), ([], ((0 : Int), [])))).2).2).1) ((((x1.getD x5.toNat ((0 : Int), ([], ((0 : Int), [])))).2).2).2))) (.done .ret E_leqJobS_0_0 (((), (), (), (), false, (), (), (), (), (), (), (), (), (), (), (), (), (), (), (), (), (), (), (), (), (), (), ()), ())) (.next ((x0, x1, (), (), (), IntKind.wrap .i64 (x5 + (1 : Int)), (), (), (), (), (), (), (), (), (), (), (), (), (), (), (), (), (), (), (), (), (), ()), ()))) .fail) .fail) .fail) (.done (.exit 0) E_leqJobS_0_1 (((), (), (), (), (), (), (), (), (), (), (), (), (), (), (), (), (), (), (), (), (), (), (), (), (), (), (), ()), ())))
def T_leqJobS_0 (x0 : List (Int × (List (Int × ByteArray × ByteArray)) × Int × List Int)) (x1 : List (Int × (List (Int × ByteArray × ByteArray)) × Int × List Int)) (x5 : Int) : CT := (.br (decide (0 ≤ x5) && (decide (x0.length = x1.length) && (okL x0 && allF (qs_leqJobS_0 x0 x1) x0.length 0))) (.br (allF (f_leqJobS_0 x0 x1) (x0.length - x5.toNat) x5.toNat) (.done (.exit 0) E_leqJobS_0_1 (((), (), (), (), (), (), (), (), (), (), (), (), (), (), (), (), (), (), (), (), (), (), (), (), (), (), (), ()), ())) (.done .ret E_leqJobS_0_0 (((), (), (), (), false, (), (), (), (), (), (), (), (), (), (), (), (), (), (), (), (), (), (), (), (), (), (), ()), ()))) .fail)
abbrev sp_leqJobS_0 : S_leqJobS_0.den → RT S_leqJobS_0.den := fun d => st_leqJobS_0 d.1.1 d.1.2.1 d.1.2.2.2.2.2.1
abbrev pk_leqJobS_0 (x0 : List (Int × (List (Int × ByteArray × ByteArray)) × Int × List Int)) (x1 : List (Int × (List (Int × ByteArray × ByteArray)) × Int × List Int)) (x5 : Int) : S_leqJobS_0.den := ((x0, x1, (), (), (), x5, (), (), (), (), (), (), (), (), (), (), (), (), (), (), (), (), (), (), (), (), (), ()), ())
noncomputable def body_leqJobS_0 : Code := ((loopsIn 0 (bodyOf Try.f90)).getD 0 (0, .skip)).2
theorem R_leqJobS_0 (x0 : List (Int × (List (Int × ByteArray × ByteArray)) × Int × List Int)) (x1 : List (Int × (List (Int × ByteArray × ByteArray)) × Int × List Int)) (x5 : Int) : (T_leqJobS_0 x0 x1 x5).val (D := S_leqJobS_0.den) = .fail ∨ Runs sp_leqJobS_0 (pk_leqJobS_0 x0 x1 x5) (T_leqJobS_0 x0 x1 x5).val := by
  cases hc : (decide (0 ≤ x5) && (decide (x0.length = x1.length) && (okL x0 && allF (qs_leqJobS_0 x0 x1) x0.length 0))) with
  | false => left; simp only [T_leqJobS_0, CT.val, hc, cond_false]
  | true =>
    right
    simp only [T_leqJobS_0, CT.val, hc, cond_true]
    simp only [Bool.and_eq_true, decide_eq_true_eq] at hc
    obtain ⟨i, rfl⟩ := Int.eq_ofNat_of_zero_le hc.1
    have hs := okL_le hc.2.2.1
    simp only [Int.toNat_natCast]
    refine Runs.scan (fun j => pk_leqJobS_0 x0 x1 (j : Int)) (x0.length) (f_leqJobS_0 x0 x1) (fun i hi => ?_) (fun i hi => ?_) ⟨_, _, _, rfl, by simp⟩ ⟨_, _, _, rfl, by simp⟩ _ _ rfl
    · 
      have h0a : decide ((i : Int) < ((x0.length : Nat) : Int)) = true := decide_eq_true (by omega)
      have h0b : decide (0 ≤ (i : Int) ∧ (i : Int) < ((x0.length : Nat) : Int)) = true := decide_eq_true (by omega)
      simp only [sp_leqJobS_0, st_leqJobS_0, RT.val, h0a, h0b, cond_true, wrapS i (by omega), Int.toNat_natCast]
      have h9 : decide (0 ≤ (i : Int) ∧ (i : Int) < ((x1.length : Nat) : Int)) = true := decide_eq_true (by omega)
      simp only [h9, cond_true]
      have hq := (allF_true _ _).1 hc.2.2.2 i (Nat.zero_le _) (by omega)
      simp only [qs_leqJobS_0, Bool.and_eq_true] at hq
      simp only [hq, cond_true]
      simp only [f_leqJobS_0]
      generalize (!(leqJob ((x0.getD i ((0 : Int), ([], ((0 : Int), [])))).1) (((x0.getD i ((0 : Int), ([], ((0 : Int), [])))).2).1) ((((x0.getD i ((0 : Int), ([], ((0 : Int), [])))).2).2).1) ((((x0.getD i ((0 : Int), ([], ((0 : Int), [])))).2).2).2) ((x1.getD i ((0 : Int), ([], ((0 : Int), [])))).1) (((x1.getD i ((0 : Int), ([], ((0 : Int), [])))).2).1) ((((x1.getD i ((0 : Int), ([], ((0 : Int), [])))).2).2).1) ((((x1.getD i ((0 : Int), ([], ((0 : Int), [])))).2).2).2))) = c
      cases c <;> rfl
    · have h1 : decide ((i : Int) < ((x0.length : Nat) : Int)) = false := decide_eq_false (by omega)
      simp only [sp_leqJobS_0, st_leqJobS_0, RT.val, h1, cond_false]
theorem rd_leqJobS_0 : ∀ d base killed, execC Try.prog tt S8 QF8 (fun _ _ => none) 0 body_leqJobS_0 (S_leqJobS_0.st d base killed) (fun e s' => some (e, S_leqJobS_0.cutE (kepts [4] [(0, [])]) e s')) = (sp_leqJobS_0 d).opt base killed := by
  intro d base killed
  kernel_rfl
abbrev say_leqJobS_0 : St → Option Tree := S_leqJobS_0.say [] (fun d => T_leqJobS_0 d.1.1 d.1.2.1 d.1.2.2.2.2.2.1)
theorem lw_leqJobS_0 : LoopWp Try.prog say_leqJobS_0 body_leqJobS_0 := SS.wp G8 (fun _ _ => none) (by rw [show loopsIn 0 body_leqJobS_0 = [] by kernel_rfl]; simp) S_leqJobS_0 (kepts [4] [(0, [])]) [] sp_leqJobS_0 rd_leqJobS_0 _ (fun d => R_leqJobS_0 d.1.1 d.1.2.1 d.1.2.2.2.2.2.1)
def leqJobS (a0 : List (Int × (List (Int × ByteArray × ByteArray)) × Int × List Int)) (a1 : List (Int × (List (Int × ByteArray × ByteArray)) × Int × List Int)) : Bool := (cond (((a0.length : Nat) : Int) != ((a1.length : Nat) : Int)) false (cond (allF (f_leqJobS_0 a0 a1) (a0.length - (0 : Int).toNat) (0 : Int).toNat) true false))
abbrev e_leqJobS (r : Bool) : AV × List AObj := ((.t true .bool r), [])
abbrev g_leqJobS : pshsDen P_leqJobS → AV × List AObj := fun d => e_leqJobS (leqJobS d.1 d.2.1)
def q_leqJobS (a0 : List (Int × (List (Int × ByteArray × ByteArray)) × Int × List Int)) (a1 : List (Int × (List (Int × ByteArray × ByteArray)) × Int × List Int)) : Bool := (okL a0 && allF (qs_leqJobS_0 a0 a1) a0.length 0)
abbrev pre_leqJobS : pshsDen P_leqJobS → Bool := fun d => q_leqJobS d.1 d.2.1
theorem runA_leqJobS (a0 : List (Int × (List (Int × ByteArray × ByteArray)) × Int × List Int)) (a1 : List (Int × (List (Int × ByteArray × ByteArray)) × Int × List Int)) (hp : ((okL a0 && allF (qs_leqJobS_0 a0 a1) a0.length 0)) = true) : runP true Try.prog tt S8 QF8 (fun b => match b with | 0 => say_leqJobS_0 | _ => fun _ => none) Try.f90 (argsMk P_leqJobS (a0, (a1, ()))) = some (g_leqJobS (a0, (a1, ()))) := by
  refine Eq.trans (b := (cond (((a0.length : Nat) : Int) != ((a1.length : Nat) : Int)) (some (e_leqJobS false)) (cond (decide (0 ≤ (0 : Int)) && (decide (a0.length = a1.length) && (okL a0 && allF (qs_leqJobS_0 a0 a1) a0.length 0))) (cond (allF (f_leqJobS_0 a0 a1) (a0.length - (0 : Int).toNat) (0 : Int).toNat) (some (e_leqJobS true)) (some (e_leqJobS false))) none))) (by kernel_rfl) ?_
  exact (cnd (F := fun r => some (e_leqJobS r)) (fun _h => rfl) (fun _h => (cndT (by simp only [okL, Bool.and_eq_true, decide_eq_true_eq] at hp ⊢; simp at _h; exact ⟨Int.le_refl 0, by omega, hp⟩) (fun _h => (cnd (F := fun r => some (e_leqJobS r)) (fun _h => rfl) (fun _h => rfl))))))
theorem run_leqJobS : ∀ d, pre_leqJobS d = true → runP true Try.prog tt S8 QF8 (fun b => match b with | 0 => say_leqJobS_0 | _ => fun _ => none) Try.f90 (argsMk P_leqJobS d) = some (g_leqJobS d) := fun d hp => runA_leqJobS d.1 d.2.1 hp
theorem c_leqJobS : PContract Try.prog 90 (sumOf P_leqJobS pre_leqJobS g_leqJobS) := PContract.of_data true G8 (fn := Try.f90) (by kernel_rfl) (L := fun b => match b with | 0 => say_leqJobS_0 | _ => fun _ => none) (by rw [show loopsIn 0 (bodyOf Try.f90) = [(0, body_leqJobS_0)] by kernel_rfl]; intro p hp; simp only [List.mem_singleton] at hp; subst hp; exact lw_leqJobS_0) P_leqJobS pre_leqJobS g_leqJobS run_leqJobS
def S9 : Tab := Tab.add S8 90 (lift (sumOf P_leqJobS pre_leqJobS g_leqJobS))
def QF9 : FuncId → Bool := qadd QF8 90
theorem G9 : Good Try.prog tt S9 QF9 := G8.addQ c_leqJobS ⟨Try.f90, by kernel_rfl, by kernel_rfl, by kernel_rfl⟩ (fun _ => rfl)

/-! 139 loop.example/g00244/laws.eqChoice -/
abbrev P_leqChoice : List PSh := [.agg [(.int .i64), .bool], .agg [(.int .i64), .bool]]
def leqChoice (a0 : Int) (a1 : Bool) (a2 : Int) (a3 : Bool) : Bool := (cond (a0 != a2) false (cond (!(a1 == a3)) false true))
abbrev e_leqChoice (r : Bool) : AV × List AObj := ((.t true .bool r), [])
abbrev g_leqChoice : pshsDen P_leqChoice → AV × List AObj := fun d => e_leqChoice (leqChoice d.1.1 d.1.2.1 d.2.1.1 d.2.1.2.1)
abbrev pre_leqChoice : pshsDen P_leqChoice → Bool := fun d => true
theorem runA_leqChoice (a0 : Int) (a1 : Bool) (a2 : Int) (a3 : Bool) : runP true Try.prog tt S9 QF9 (fun _ _ => none) Try.f139 (argsMk P_leqChoice ((a0, (a1, ())), ((a2, (a3, ())), ()))) = some (g_leqChoice ((a0, (a1, ())), ((a2, (a3, ())), ()))) := by
  refine Eq.trans (b := (cond (a0 != a2) (some (e_leqChoice false)) (cond (!(a1 == a3)) (some (e_leqChoice false)) (some (e_leqChoice true))))) (by kernel_rfl) ?_
  exact (cnd (F := fun r => some (e_leqChoice r)) (fun _h => rfl) (fun _h => (cnd (F := fun r => some (e_leqChoice r)) (fun _h => rfl) (fun _h => rfl))))
theorem run_leqChoice : ∀ d, pre_leqChoice d = true → runP true Try.prog tt S9 QF9 (fun _ _ => none) Try.f139 (argsMk P_leqChoice d) = some (g_leqChoice d) := fun d hp => runA_leqChoice d.1.1 d.1.2.1 d.2.1.1 d.2.1.2.1
theorem c_leqChoice : PContract Try.prog 139 (sumOf P_leqChoice pre_leqChoice g_leqChoice) := PContract.of_data true G9 (fn := Try.f139) (by kernel_rfl) (L := fun _ _ => none) (by rw [show loopsIn 0 (bodyOf Try.f139) = [] by kernel_rfl]; simp) P_leqChoice pre_leqChoice g_leqChoice run_leqChoice
def S10 : Tab := Tab.add S9 139 (lift (sumOf P_leqChoice pre_leqChoice g_leqChoice))
def QF10 : FuncId → Bool := qadd QF9 139
theorem G10 : Good Try.prog tt S10 QF10 := G9.addQ c_leqChoice ⟨Try.f139, by kernel_rfl, by kernel_rfl, by kernel_rfl⟩ (fun _ => rfl)

/-! 91 loop.example/g00244/laws.eqChoiceS -/

def f_leqChoiceS_0 (x0 x1 : List (Int × Bool)) (i : Nat) : Bool := !(!(leqChoice ((x0.getD i ((0 : Int), false)).1) ((x0.getD i ((0 : Int), false)).2) ((x1.getD i ((0 : Int), false)).1) ((x1.getD i ((0 : Int), false)).2)))
abbrev P_leqChoiceS : List PSh := [.t (.sl (.pair (.int .i64) .bool)), .t (.sl (.pair (.int .i64) .bool))]
abbrev S_leqChoiceS_0 : SS := ⟨[.t false (.sl (.pair (.int .i64) .bool)), .t false (.sl (.pair (.int .i64) .bool)), .junk, .junk, .junk, .t true (.int .i64), .junk, .junk, .junk, .junk, .junk, .junk, .junk, .junk, .junk, .junk, .junk, .junk, .junk, .junk, .junk, .junk, .junk, .junk, .junk, .junk, .junk], []⟩
abbrev E_leqChoiceS_0_0 : SS := ⟨[.junk, .junk, .junk, .junk, .t true .bool, .junk, .junk, .junk, .junk, .junk, .junk, .junk, .junk, .junk, .junk, .junk, .junk, .junk, .junk, .junk, .junk, .junk, .junk, .junk, .junk, .junk, .junk], []⟩
abbrev E_leqChoiceS_0_1 : SS := ⟨[.junk, .junk, .junk, .junk, .junk, .junk, .junk, .junk, .junk, .junk, .junk, .junk, .junk, .junk, .junk, .junk, .junk, .junk, .junk, .junk, .junk, .junk, .junk, .junk, .junk, .junk, .junk], []⟩
def st_leqChoiceS_0 (x0 : List (Int × Bool)) (x1 : List (Int × Bool)) (x5 : Int) : RT S_leqChoiceS_0.den := (.br (decide (x5 < ((x0.length : Nat) : Int))) (.br (decide (0 ≤ x5 ∧ x5 < ((x0.length : Nat) : Int))) (.br (decide (0 ≤ x5 ∧ x5 < ((x1.length : Nat) : Int))) (.br (!(leqChoice ((x0.getD x5.toNat ((0 : Int), false)).1) ((x0.getD x5.toNat ((0 : Int), false)).2) ((x1.getD x5.toNat ((0 : Int), false)).1) ((x1.getD x5.toNat ((0 : Int), false)).2))) (.done .ret E_leqChoiceS_0_0 (((), (), (), (), false, (), (), (), (), (), (), (), (), (), (), (), (), (), (), (), (), (), (), (), (), (), (), ()), ())) (.next ((x0, x1, (), (), (), IntKind.wrap .i64 (x5 + (1 : Int)), (), (), (), (), (), (), (), (), (), (), (), (), (), (), (), (), (), (), (), (), (), ()), ()))) .fail) .fail) (.done (.exit 0) E_leqChoiceS_0_1 (((), (), (), (), (), (), (), (), (), (), (), (), (), (), (), (), (), (), (), (), (), (), (), (), (), (), (), ()), ())))
def T_leqChoiceS_0 (x0 : List (Int × Bool)) (x1 : List (Int × Bool)) (x5 : Int) : CT := (.br (decide (0 ≤ x5) && (decide (x0.length = x1.length) && okL x0)) (.br (allF (f_leqChoiceS_0 x0 x1) (x0.length - x5.toNat) x5.toNat) (.done (.exit 0) E_leqChoiceS_0_1 (((), (), (), (), (), (), (), (), (), (), (), (), (), (), (), (), (), (), (), (), (), (), (), (), (), (), (), ()), ())) (.done .ret E_leqChoiceS_0_0 (((), (), (), (), false, (), (), (), (), (), (), (), (), (), (), (), (), (), (), (), (), (), (), (), (), (), (), ()), ()))) .fail)
abbrev sp_leqChoiceS_0 : S_leqChoiceS_0.den → RT S_leqChoiceS_0.den := fun d => st_leqChoiceS_0 d.1.1 d.1.2.1 d.1.2.2.2.2.2.1
abbrev pk_leqChoiceS_0 (x0 : List (Int × Bool)) (x1 : List (Int × Bool)) (x5 : Int) : S_leqChoiceS_0.den := ((x0, x1, (), (), (), x5, (), (), (), (), (), (), (), (), (), (), (), (), (), (), (), (), (), (), (), (), (), ()), ())
noncomputable def body_leqChoiceS_0 : Code := ((loopsIn 0 (bodyOf Try.f91)).getD 0 (0, .skip)).2
theorem R_leqChoiceS_0 (x0 : List (Int × Bool)) (x1 : List (Int × Bool)) (x5 : Int) : (T_leqChoiceS_0 x0 x1 x5).val (D := S_leqChoiceS_0.den) = .fail ∨ Runs sp_leqChoiceS_0 (pk_leqChoiceS_0 x0 x1 x5) (T_leqChoiceS_0 x0 x1 x5).val := by
  cases hc : (decide (0 ≤ x5) && (decide (x0.length = x1.length) && okL x0)) with
  | false => left; simp only [T_leqChoiceS_0, CT.val, hc, cond_false]
  | true =>
    right
    simp only [T_leqChoiceS_0, CT.val, hc, cond_true]
    simp only [Bool.and_eq_true, decide_eq_true_eq] at hc
    obtain ⟨i, rfl⟩ := Int.eq_ofNat_of_zero_le hc.1
    have hs := okL_le hc.2.2
    simp only [Int.toNat_natCast]
    refine Runs.scan (fun j => pk_leqChoiceS_0 x0 x1 (j : Int)) (x0.length) (f_leqChoiceS_0 x0 x1) (fun i hi => ?_) (fun i hi => ?_) ⟨_, _, _, rfl, by simp⟩ ⟨_, _, _, rfl, by simp⟩ _ _ rfl
    · 
      have h0a : decide ((i : Int) < ((x0.length : Nat) : Int)) = true := decide_eq_true (by omega)
      have h0b : decide (0 ≤ (i : Int) ∧ (i : Int) < ((x0.length : Nat) : Int)) = true := decide_eq_true (by omega)
      simp only [sp_leqChoiceS_0, st_leqChoiceS_0, RT.val, h0a, h0b, cond_true, wrapS i (by omega), Int.toNat_natCast]
      have h9 : decide (0 ≤ (i : Int) ∧ (i : Int) < ((x1.length : Nat) : Int)) = true := decide_eq_true (by omega)
      simp only [h9, cond_true]
      simp only [f_leqChoiceS_0]
      generalize (!(leqChoice ((x0.getD i ((0 : Int), false)).1) ((x0.getD i ((0 : Int), false)).2) ((x1.getD i ((0 : Int), false)).1) ((x1.getD i ((0 : Int), false)).2))) = c
      cases c <;> rfl
    · have h1 : decide ((i : Int) < ((x0.length : Nat) : Int)) = false := decide_eq_false (by omega)
      simp only [sp_leqChoiceS_0, st_leqChoiceS_0, RT.val, h1, cond_false]
theorem rd_leqChoiceS_0 : ∀ d base killed, execC Try.prog tt S10 QF10 (fun _ _ => none) 0 body_leqChoiceS_0 (S_leqChoiceS_0.st d base killed) (fun e s' => some (e, S_leqChoiceS_0.cutE (kepts [4] [(0, [])]) e s')) = (sp_leqChoiceS_0 d).opt base killed := by
  intro d base killed
  kernel_rfl
abbrev say_leqChoiceS_0 : St → Option Tree := S_leqChoiceS_0.say [] (fun d => T_leqChoiceS_0 d.1.1 d.1.2.1 d.1.2.2.2.2.2.1)
theorem lw_leqChoiceS_0 : LoopWp Try.prog say_leqChoiceS_0 body_leqChoiceS_0 := SS.wp G10 (fun _ _ => none) (by rw [show loopsIn 0 body_leqChoiceS_0 = [] by kernel_rfl]; simp) S_leqChoiceS_0 (kepts [4] [(0, [])]) [] sp_leqChoiceS_0 rd_leqChoiceS_0 _ (fun d => R_leqChoiceS_0 d.1.1 d.1.2.1 d.1.2.2.2.2.2.1)
def leqChoiceS (a0 : List (Int × Bool)) (a1 : List (Int × Bool)) : Bool := (cond (((a0.length : Nat) : Int) != ((a1.length : Nat) : Int)) false (cond (allF (f_leqChoiceS_0 a0 a1) (a0.length - (0 : Int).toNat) (0 : Int).toNat) true false))
abbrev e_leqChoiceS (r : Bool) : AV × List AObj := ((.t true .bool r), [])
abbrev g_leqChoiceS : pshsDen P_leqChoiceS → AV × List AObj := fun d => e_leqChoiceS (leqChoiceS d.1 d.2.1)
def q_leqChoiceS (a0 : List (Int × Bool)) (a1 : List (Int × Bool)) : Bool := okL a0
abbrev pre_leqChoiceS : pshsDen P_leqChoiceS → Bool := fun d => q_leqChoiceS d.1 d.2.1
theorem runA_leqChoiceS (a0 : List (Int × Bool)) (a1 : List (Int × Bool)) (hp : (okL a0) = true) : runP true Try.prog tt S10 QF10 (fun b => match b with | 0 => say_leqChoiceS_0 | _ => fun _ => none) Try.f91 (argsMk P_leqChoiceS (a0, (a1, ()))) = some (g_leqChoiceS (a0, (a1, ()))) := by
  refine Eq.trans (b := (cond (((a0.length : Nat) : Int) != ((a1.length : Nat) : Int)) (some (e_leqChoiceS false)) (cond (decide (0 ≤ (0 : Int)) && (decide (a0.length = a1.length) && okL a0)) (cond (allF (f_leqChoiceS_0 a0 a1) (a0.length - (0 : Int).toNat) (0 : Int).toNat) (some (e_leqChoiceS true)) (some (e_leqChoiceS false))) none))) (by kernel_rfl) ?_
  exact (cnd (F := fun r => some (e_leqChoiceS r)) (fun _h => rfl) (fun _h => (cndT (by simp only [okL, Bool.and_eq_true, decide_eq_true_eq] at hp ⊢; simp at _h; exact ⟨Int.le_refl 0, by omega, hp⟩) (fun _h => (cnd (F := fun r => some (e_leqChoiceS r)) (fun _h => rfl) (fun _h => rfl))))))
theorem run_leqChoiceS : ∀ d, pre_leqChoiceS d = true → runP true Try.prog tt S10 QF10 (fun b => match b with | 0 => say_leqChoiceS_0 | _ => fun _ => none) Try.f91 (argsMk P_leqChoiceS d) = some (g_leqChoiceS d) := fun d hp => runA_leqChoiceS d.1 d.2.1 hp
theorem c_leqChoiceS : PContract Try.prog 91 (sumOf P_leqChoiceS pre_leqChoiceS g_leqChoiceS) := PContract.of_data true G10 (fn := Try.f91) (by kernel_rfl) (L := fun b => match b with | 0 => say_leqChoiceS_0 | _ => fun _ => none) (by rw [show loopsIn 0 (bodyOf Try.f91) = [(0, body_leqChoiceS_0)] by kernel_rfl]; intro p hp; simp only [List.mem_singleton] at hp; subst hp; exact lw_leqChoiceS_0) P_leqChoiceS pre_leqChoiceS g_leqChoiceS run_leqChoiceS
def S11 : Tab := Tab.add S10 91 (lift (sumOf P_leqChoiceS pre_leqChoiceS g_leqChoiceS))
def QF11 : FuncId → Bool := qadd QF10 91
theorem G11 : Good Try.prog tt S11 QF11 := G10.addQ c_leqChoiceS ⟨Try.f91, by kernel_rfl, by kernel_rfl, by kernel_rfl⟩ (fun _ => rfl)

/-! 32 loop.example/g00244/laws.eqCoord -/
abbrev P_leqCoord : List PSh := [.agg [(.int .i64), (.int .i64), (.int .i64), (.sl (.pair (.int .i64) (.pair (.sl (.pair (.int .i64) (.pair .str .str))) (.pair (.int .i64) (.sl (.int .i64)))))), (.sl (.pair (.int .i64) .bool)), (.int .i64)], .agg [(.int .i64), (.int .i64), (.int .i64), (.sl (.pair (.int .i64) (.pair (.sl (.pair (.int .i64) (.pair .str .str))) (.pair (.int .i64) (.sl (.int .i64)))))), (.sl (.pair (.int .i64) .bool)), (.int .i64)]]
def leqCoord (a0 : Int) (a1 : Int) (a2 : Int) (a3 : List (Int × (List (Int × ByteArray × ByteArray)) × Int × List Int)) (a4 : List (Int × Bool)) (a5 : Int) (a6 : Int) (a7 : Int) (a8 : Int) (a9 : List (Int × (List (Int × ByteArray × ByteArray)) × Int × List Int)) (a10 : List (Int × Bool)) (a11 : Int) : Bool := (cond (a0 != a6) false (cond (a1 != a7) false (cond (a2 != a8) false (cond (!(leqJobS a3 a9)) false (cond (!(leqChoiceS a4 a10)) false (cond (a5 != a11) false true))))))
abbrev e_leqCoord (r : Bool) : AV × List AObj := ((.t true .bool r), [])
abbrev g_leqCoord : pshsDen P_leqCoord → AV × List AObj := fun d => e_leqCoord (leqCoord d.1.1 d.1.2.1 d.1.2.2.1 d.1.2.2.2.1 d.1.2.2.2.2.1 d.1.2.2.2.2.2.1 d.2.1.1 d.2.1.2.1 d.2.1.2.2.1 d.2.1.2.2.2.1 d.2.1.2.2.2.2.1 d.2.1.2.2.2.2.2.1)
def q_leqCoord (a0 : Int) (a1 : Int) (a2 : Int) (a3 : List (Int × (List (Int × ByteArray × ByteArray)) × Int × List Int)) (a4 : List (Int × Bool)) (a5 : Int) (a6 : Int) (a7 : Int) (a8 : Int) (a9 : List (Int × (List (Int × ByteArray × ByteArray)) × Int × List Int)) (a10 : List (Int × Bool)) (a11 : Int) : Bool := (q_leqJobS a3 a9) && (q_leqChoiceS a4 a10)
abbrev pre_leqCoord : pshsDen P_leqCoord → Bool := fun d => q_leqCoord d.1.1 d.1.2.1 d.1.2.2.1 d.1.2.2.2.1 d.1.2.2.2.2.1 d.1.2.2.2.2.2.1 d.2.1.1 d.2.1.2.1 d.2.1.2.2.1 d.2.1.2.2.2.1 d.2.1.2.2.2.2.1 d.2.1.2.2.2.2.2.1
theorem runA_leqCoord (a0 : Int) (a1 : Int) (a2 : Int) (a3 : List (Int × (List (Int × ByteArray × ByteArray)) × Int × List Int)) (a4 : List (Int × Bool)) (a5 : Int) (a6 : Int) (a7 : Int) (a8 : Int) (a9 : List (Int × (List (Int × ByteArray × ByteArray)) × Int × List Int)) (a10 : List (Int × Bool)) (a11 : Int) (hp : ((q_leqJobS a3 a9) && (q_leqChoiceS a4 a10)) = true) : runP true Try.prog tt S11 QF11 (fun _ _ => none) Try.f32 (argsMk P_leqCoord ((a0, (a1, (a2, (a3, (a4, (a5, ())))))), ((a6, (a7, (a8, (a9, (a10, (a11, ())))))), ()))) = some (g_leqCoord ((a0, (a1, (a2, (a3, (a4, (a5, ())))))), ((a6, (a7, (a8, (a9, (a10, (a11, ())))))), ()))) := by
  refine Eq.trans (b := (cond (a0 != a6) (some (e_leqCoord false)) (cond (a1 != a7) (some (e_leqCoord false)) (cond (a2 != a8) (some (e_leqCoord false)) (cond (q_leqJobS a3 a9) (cond (!(leqJobS a3 a9)) (some (e_leqCoord false)) (cond (q_leqChoiceS a4 a10) (cond (!(leqChoiceS a4 a10)) (some (e_leqCoord false)) (cond (a5 != a11) (some (e_leqCoord false)) (some (e_leqCoord true)))) none)) none))))) (by kernel_rfl) ?_
  exact (cnd (F := fun r => some (e_leqCoord r)) (fun _h => rfl) (fun _h => (cnd (F := fun r => some (e_leqCoord r)) (fun _h => rfl) (fun _h => (cnd (F := fun r => some (e_leqCoord r)) (fun _h => rfl) (fun _h => (cndT (by first | rfl | decide | exact hp | (simp only [Bool.and_eq_true] at hp; simp only [hp]; done) | (simp [*]; done) | (simp [okL] at hp; simp [okL, MAXB]; omega) | (simp_all; done) | (simp at *; omega)) (fun _h => (cnd (F := fun r => some (e_leqCoord r)) (fun _h => rfl) (fun _h => (cndT (by first | rfl | decide | exact hp | (simp only [Bool.and_eq_true] at hp; simp only [hp]; done) | (simp [*]; done) | (simp [okL] at hp; simp [okL, MAXB]; omega) | (simp_all; done) | (simp at *; omega)) (fun _h => (cnd (F := fun r => some (e_leqCoord r)) (fun _h => rfl) (fun _h => (cnd (F := fun r => some (e_leqCoord r)) (fun _h => rfl) (fun _h => rfl))))))))))))))))
theorem run_leqCoord : ∀ d, pre_leqCoord d = true → runP true Try.prog tt S11 QF11 (fun _ _ => none) Try.f32 (argsMk P_leqCoord d) = some (g_leqCoord d) := fun d hp => runA_leqCoord d.1.1 d.1.2.1 d.1.2.2.1 d.1.2.2.2.1 d.1.2.2.2.2.1 d.1.2.2.2.2.2.1 d.2.1.1 d.2.1.2.1 d.2.1.2.2.1 d.2.1.2.2.2.1 d.2.1.2.2.2.2.1 d.2.1.2.2.2.2.2.1 hp
theorem c_leqCoord : PContract Try.prog 32 (sumOf P_leqCoord pre_leqCoord g_leqCoord) := PContract.of_data true G11 (fn := Try.f32) (by kernel_rfl) (L := fun _ _ => none) (by rw [show loopsIn 0 (bodyOf Try.f32) = [] by kernel_rfl]; simp) P_leqCoord pre_leqCoord g_leqCoord run_leqCoord
def S12 : Tab := Tab.add S11 32 (lift (sumOf P_leqCoord pre_leqCoord g_leqCoord))
def QF12 : FuncId → Bool := qadd QF11 32
theorem G12 : Good Try.prog tt S12 QF12 := G11.addQ c_leqCoord ⟨Try.f32, by kernel_rfl, by kernel_rfl, by kernel_rfl⟩ (fun _ => rfl)

/-! 50 loop.example/g00244/laws.markOpS -/
abbrev P_lmarkOpS : List PSh := [.t (.sl (.pair (.int .i64) (.pair .str .str))), .t (.int .i64)]
abbrev S_lmarkOpS_0 : SS := ⟨[.t false (.sl (.pair (.int .i64) (.pair .str .str))), .t true (.int .i64), .junk, .junk, .junk, .t true (.int .i64), .junk, .junk, .junk, .junk, .junk, .junk, .junk, .junk, .junk, .junk, .junk, .junk, .junk, .junk, .junk, .junk, .junk, .junk, .junk, .junk, .junk, .junk, .junk, .junk, .junk, .junk, .junk, .junk, .junk, .junk], []⟩
abbrev E_lmarkOpS_0_0 : SS := ⟨[.junk, .t true (.int .i64), .junk, .junk, .junk, .junk, .junk, .junk, .junk, .junk, .junk, .junk, .junk, .junk, .junk, .junk, .junk, .junk, .junk, .junk, .junk, .junk, .junk, .junk, .junk, .junk, .junk, .junk, .junk, .junk, .junk, .junk, .junk, .junk, .junk, .junk], []⟩
def st_lmarkOpS_0 (x0 : List (Int × ByteArray × ByteArray)) (x1 : Int) (x5 : Int) : RT S_lmarkOpS_0.den := (.br (decide (x5 < ((x0.length : Nat) : Int))) (.br (decide (0 ≤ x5 ∧ x5 < ((x0.length : Nat) : Int))) .fail .fail) (.done (.exit 0) E_lmarkOpS_0_0 (((), x1, (), (), (), (), (), (), (), (), (), (), (), (), (), (), (), (), (), (), (), (), (), (), (), (), (), (), (), (), (), (), (), (), (), (), ()), ())))
def T_lmarkOpS_0 (x0 : List (Int × ByteArray × ByteArray)) (x1 : Int) (x5 : Int) : CT := (.br (decide (0 ≤ x5) && decide (x0.length = 0)) (.done (.exit 0) E_lmarkOpS_0_0 (((), x1, (), (), (), (), (), (), (), (), (), (), (), (), (), (), (), (), (), (), (), (), (), (), (), (), (), (), (), (), (), (), (), (), (), (), ()), ())) .fail)
abbrev sp_lmarkOpS_0 : S_lmarkOpS_0.den → RT S_lmarkOpS_0.den := fun d => st_lmarkOpS_0 d.1.1 d.1.2.1 d.1.2.2.2.2.2.1
abbrev pk_lmarkOpS_0 (x0 : List (Int × ByteArray × ByteArray)) (x1 : Int) (x5 : Int) : S_lmarkOpS_0.den := ((x0, x1, (), (), (), x5, (), (), (), (), (), (), (), (), (), (), (), (), (), (), (), (), (), (), (), (), (), (), (), (), (), (), (), (), (), (), ()), ())
noncomputable def body_lmarkOpS_0 : Code := ((loopsIn 0 (bodyOf Try.f50)).getD 0 (0, .skip)).2
theorem R_lmarkOpS_0 (x0 : List (Int × ByteArray × ByteArray)) (x1 : Int) (x5 : Int) : (T_lmarkOpS_0 x0 x1 x5).val (D := S_lmarkOpS_0.den) = .fail ∨ Runs sp_lmarkOpS_0 (pk_lmarkOpS_0 x0 x1 x5) (T_lmarkOpS_0 x0 x1 x5).val := by
  cases hc : (decide (0 ≤ x5) && decide (x0.length = 0)) with
  | false => left; simp only [T_lmarkOpS_0, CT.val, hc, cond_false]
  | true =>
    right
    simp only [T_lmarkOpS_0, CT.val, hc, cond_true]
    simp only [Bool.and_eq_true, decide_eq_true_eq] at hc
    have h1 : decide (x5 < ((x0.length : Nat) : Int)) = false := decide_eq_false (by omega)
    exact .done (by simp) (by simp only [sp_lmarkOpS_0, st_lmarkOpS_0, RT.val, h1, cond_false])
theorem rd_lmarkOpS_0 : ∀ d base killed, execC Try.prog tt S12 QF12 (fun _ _ => none) 0 body_lmarkOpS_0 (S_lmarkOpS_0.st d base killed) (fun e s' => some (e, S_lmarkOpS_0.cutE (kepts [] [(0, [1])]) e s')) = (sp_lmarkOpS_0 d).opt base killed := by
  intro d base killed
  kernel_rfl
abbrev say_lmarkOpS_0 : St → Option Tree := S_lmarkOpS_0.say [] (fun d => T_lmarkOpS_0 d.1.1 d.1.2.1 d.1.2.2.2.2.2.1)
theorem lw_lmarkOpS_0 : LoopWp Try.prog say_lmarkOpS_0 body_lmarkOpS_0 := SS.wp G12 (fun _ _ => none) (by rw [show loopsIn 0 body_lmarkOpS_0 = [] by kernel_rfl]; simp) S_lmarkOpS_0 (kepts [] [(0, [1])]) [] sp_lmarkOpS_0 rd_lmarkOpS_0 _ (fun d => R_lmarkOpS_0 d.1.1 d.1.2.1 d.1.2.2.2.2.2.1)
def lmarkOpS (a0 : List (Int × ByteArray × ByteArray)) (a1 : Int) : Int := a1
abbrev e_lmarkOpS (r : Int) : AV × List AObj := ((.t true (.int .i64) r), [])
abbrev g_lmarkOpS : pshsDen P_lmarkOpS → AV × List AObj := fun d => e_lmarkOpS (lmarkOpS d.1 d.2.1)
def q_lmarkOpS (a0 : List (Int × ByteArray × ByteArray)) (a1 : Int) : Bool := decide (a0.length = 0)
abbrev pre_lmarkOpS : pshsDen P_lmarkOpS → Bool := fun d => q_lmarkOpS d.1 d.2.1
theorem runA_lmarkOpS (a0 : List (Int × ByteArray × ByteArray)) (a1 : Int) (hp : (decide (a0.length = 0)) = true) : runP true Try.prog tt S12 QF12 (fun b => match b with | 0 => say_lmarkOpS_0 | _ => fun _ => none) Try.f50 (argsMk P_lmarkOpS (a0, (a1, ()))) = some (g_lmarkOpS (a0, (a1, ()))) := by
  refine Eq.trans (b := (cond (decide (0 ≤ (0 : Int)) && decide (a0.length = 0)) (some (e_lmarkOpS a1)) none)) (by kernel_rfl) ?_
  exact (cndT (by simpa using hp) (fun _h => rfl))
theorem run_lmarkOpS : ∀ d, pre_lmarkOpS d = true → runP true Try.prog tt S12 QF12 (fun b => match b with | 0 => say_lmarkOpS_0 | _ => fun _ => none) Try.f50 (argsMk P_lmarkOpS d) = some (g_lmarkOpS d) := fun d hp => runA_lmarkOpS d.1 d.2.1 hp
theorem c_lmarkOpS : PContract Try.prog 50 (sumOf P_lmarkOpS pre_lmarkOpS g_lmarkOpS) := PContract.of_data true G12 (fn := Try.f50) (by kernel_rfl) (L := fun b => match b with | 0 => say_lmarkOpS_0 | _ => fun _ => none) (by rw [show loopsIn 0 (bodyOf Try.f50) = [(0, body_lmarkOpS_0)] by kernel_rfl]; intro p hp; simp only [List.mem_singleton] at hp; subst hp; exact lw_lmarkOpS_0) P_lmarkOpS pre_lmarkOpS g_lmarkOpS run_lmarkOpS
def S13 : Tab := Tab.add S12 50 (lift (sumOf P_lmarkOpS pre_lmarkOpS g_lmarkOpS))
def QF13 : FuncId → Bool := qadd QF12 50
theorem G13 : Good Try.prog tt S13 QF13 := G12.addQ c_lmarkOpS ⟨Try.f50, by kernel_rfl, by kernel_rfl, by kernel_rfl⟩ (fun _ => rfl)

/-! 81 loop.example/g00244/laws.markIntS -/
abbrev P_lmarkIntS : List PSh := [.t (.sl (.int .i64)), .t (.int .i64)]
abbrev S_lmarkIntS_0 : SS := ⟨[.t false (.sl (.int .i64)), .t true (.int .i64), .junk, .junk, .junk, .t true (.int .i64), .junk, .junk, .junk, .junk, .junk, .junk, .junk, .junk, .junk, .junk, .junk, .junk, .junk], []⟩
abbrev E_lmarkIntS_0_0 : SS := ⟨[.junk, .t true (.int .i64), .junk, .junk, .junk, .junk, .junk, .junk, .junk, .junk, .junk, .junk, .junk, .junk, .junk, .junk, .junk, .junk, .junk], []⟩
def st_lmarkIntS_0 (x0 : List Int) (x1 : Int) (x5 : Int) : RT S_lmarkIntS_0.den := (.br (decide (x5 < ((x0.length : Nat) : Int))) (.br (decide (0 ≤ x5 ∧ x5 < ((x0.length : Nat) : Int))) .fail .fail) (.done (.exit 0) E_lmarkIntS_0_0 (((), x1, (), (), (), (), (), (), (), (), (), (), (), (), (), (), (), (), (), ()), ())))
def T_lmarkIntS_0 (x0 : List Int) (x1 : Int) (x5 : Int) : CT := (.br (decide (0 ≤ x5) && decide (x0.length = 0)) (.done (.exit 0) E_lmarkIntS_0_0 (((), x1, (), (), (), (), (), (), (), (), (), (), (), (), (), (), (), (), (), ()), ())) .fail)
abbrev sp_lmarkIntS_0 : S_lmarkIntS_0.den → RT S_lmarkIntS_0.den := fun d => st_lmarkIntS_0 d.1.1 d.1.2.1 d.1.2.2.2.2.2.1
abbrev pk_lmarkIntS_0 (x0 : List Int) (x1 : Int) (x5 : Int) : S_lmarkIntS_0.den := ((x0, x1, (), (), (), x5, (), (), (), (), (), (), (), (), (), (), (), (), (), ()), ())
noncomputable def body_lmarkIntS_0 : Code := ((loopsIn 0 (bodyOf Try.f81)).getD 0 (0, .skip)).2
theorem R_lmarkIntS_0 (x0 : List Int) (x1 : Int) (x5 : Int) : (T_lmarkIntS_0 x0 x1 x5).val (D := S_lmarkIntS_0.den) = .fail ∨ Runs sp_lmarkIntS_0 (pk_lmarkIntS_0 x0 x1 x5) (T_lmarkIntS_0 x0 x1 x5).val := by
  cases hc : (decide (0 ≤ x5) && decide (x0.length = 0)) with
  | false => left; simp only [T_lmarkIntS_0, CT.val, hc, cond_false]
  | true =>
    right
    simp only [T_lmarkIntS_0, CT.val, hc, cond_true]
    simp only [Bool.and_eq_true, decide_eq_true_eq] at hc
    have h1 : decide (x5 < ((x0.length : Nat) : Int)) = false := decide_eq_false (by omega)
    exact .done (by simp) (by simp only [sp_lmarkIntS_0, st_lmarkIntS_0, RT.val, h1, cond_false])
theorem rd_lmarkIntS_0 : ∀ d base killed, execC Try.prog tt S13 QF13 (fun _ _ => none) 0 body_lmarkIntS_0 (S_lmarkIntS_0.st d base killed) (fun e s' => some (e, S_lmarkIntS_0.cutE (kepts [] [(0, [1])]) e s')) = (sp_lmarkIntS_0 d).opt base killed := by
  intro d base killed
  kernel_rfl
abbrev say_lmarkIntS_0 : St → Option Tree := S_lmarkIntS_0.say [] (fun d => T_lmarkIntS_0 d.1.1 d.1.2.1 d.1.2.2.2.2.2.1)
theorem lw_lmarkIntS_0 : LoopWp Try.prog say_lmarkIntS_0 body_lmarkIntS_0 := SS.wp G13 (fun _ _ => none) (by rw [show loopsIn 0 body_lmarkIntS_0 = [] by kernel_rfl]; simp) S_lmarkIntS_0 (kepts [] [(0, [1])]) [] sp_lmarkIntS_0 rd_lmarkIntS_0 _ (fun d => R_lmarkIntS_0 d.1.1 d.1.2.1 d.1.2.2.2.2.2.1)
def lmarkIntS (a0 : List Int) (a1 : Int) : Int := a1
abbrev e_lmarkIntS (r : Int) : AV × List AObj := ((.t true (.int .i64) r), [])
abbrev g_lmarkIntS : pshsDen P_lmarkIntS → AV × List AObj := fun d => e_lmarkIntS (lmarkIntS d.1 d.2.1)
def q_lmarkIntS (a0 : List Int) (a1 : Int) : Bool := decide (a0.length = 0)
abbrev pre_lmarkIntS : pshsDen P_lmarkIntS → Bool := fun d => q_lmarkIntS d.1 d.2.1
theorem runA_lmarkIntS (a0 : List Int) (a1 : Int) (hp : (decide (a0.length = 0)) = true) : runP true Try.prog tt S13 QF13 (fun b => match b with | 0 => say_lmarkIntS_0 | _ => fun _ => none) Try.f81 (argsMk P_lmarkIntS (a0, (a1, ()))) = some (g_lmarkIntS (a0, (a1, ()))) := by
  refine Eq.trans (b := (cond (decide (0 ≤ (0 : Int)) && decide (a0.length = 0)) (some (e_lmarkIntS a1)) none)) (by kernel_rfl) ?_
  exact (cndT (by simpa using hp) (fun _h => rfl))
theorem run_lmarkIntS : ∀ d, pre_lmarkIntS d = true → runP true Try.prog tt S13 QF13 (fun b => match b with | 0 => say_lmarkIntS_0 | _ => fun _ => none) Try.f81 (argsMk P_lmarkIntS d) = some (g_lmarkIntS d) := fun d hp => runA_lmarkIntS d.1 d.2.1 hp
theorem c_lmarkIntS : PContract Try.prog 81 (sumOf P_lmarkIntS pre_lmarkIntS g_lmarkIntS) := PContract.of_data true G13 (fn := Try.f81) (by kernel_rfl) (L := fun b => match b with | 0 => say_lmarkIntS_0 | _ => fun _ => none) (by rw [show loopsIn 0 (bodyOf Try.f81) = [(0, body_lmarkIntS_0)] by kernel_rfl]; intro p hp; simp only [List.mem_singleton] at hp; subst hp; exact lw_lmarkIntS_0) P_lmarkIntS pre_lmarkIntS g_lmarkIntS run_lmarkIntS
def S14 : Tab := Tab.add S13 81 (lift (sumOf P_lmarkIntS pre_lmarkIntS g_lmarkIntS))
def QF14 : FuncId → Bool := qadd QF13 81
theorem G14 : Good Try.prog tt S14 QF14 := G13.addQ c_lmarkIntS ⟨Try.f81, by kernel_rfl, by kernel_rfl, by kernel_rfl⟩ (fun _ => rfl)

/-! 92 loop.example/g00244/laws.markJobS -/
abbrev P_lmarkJobS : List PSh := [.t (.sl (.pair (.int .i64) (.pair (.sl (.pair (.int .i64) (.pair .str .str))) (.pair (.int .i64) (.sl (.int .i64)))))), .t (.int .i64)]
abbrev S_lmarkJobS_0 : SS := ⟨[.t false (.sl (.pair (.int .i64) (.pair (.sl (.pair (.int .i64) (.pair .str .str))) (.pair (.int .i64) (.sl (.int .i64)))))), .t true (.int .i64), .junk, .junk, .junk, .t true (.int .i64), .junk, .junk, .junk, .junk, .junk, .junk, .junk, .junk, .junk, .junk, .junk, .junk, .junk, .junk, .junk, .junk, .junk, .junk, .junk, .junk, .junk, .junk, .junk, .junk, .junk, .junk, .junk, .junk, .junk, .junk, .junk, .junk, .junk, .junk, .junk], []⟩
abbrev E_lmarkJobS_0_0 : SS := ⟨[.junk, .t true (.int .i64), .junk, .junk, .junk, .junk, .junk, .junk, .junk, .junk, .junk, .junk, .junk, .junk, .junk, .junk, .junk, .junk, .junk, .junk, .junk, .junk, .junk, .junk, .junk, .junk, .junk, .junk, .junk, .junk, .junk, .junk, .junk, .junk, .junk, .junk, .junk, .junk, .junk, .junk, .junk], []⟩
def st_lmarkJobS_0 (x0 : List (Int × (List (Int × ByteArray × ByteArray)) × Int × List Int)) (x1 : Int) (x5 : Int) : RT S_lmarkJobS_0.den := (.br (decide (x5 < ((x0.length : Nat) : Int))) (.br (decide (0 ≤ x5 ∧ x5 < ((x0.length : Nat) : Int))) .fail .fail) (.done (.exit 0) E_lmarkJobS_0_0 (((), x1, (), (), (), (), (), (), (), (), (), (), (), (), (), (), (), (), (), (), (), (), (), (), (), (), (), (), (), (), (), (), (), (), (), (), (), (), (), (), (), ()), ())))
def T_lmarkJobS_0 (x0 : List (Int × (List (Int × ByteArray × ByteArray)) × Int × List Int)) (x1 : Int) (x5 : Int) : CT := (.br (decide (0 ≤ x5) && decide (x0.length = 0)) (.done (.exit 0) E_lmarkJobS_0_0 (((), x1, (), (), (), (), (), (), (), (), (), (), (), (), (), (), (), (), (), (), (), (), (), (), (), (), (), (), (), (), (), (), (), (), (), (), (), (), (), (), (), ()), ())) .fail)
abbrev sp_lmarkJobS_0 : S_lmarkJobS_0.den → RT S_lmarkJobS_0.den := fun d => st_lmarkJobS_0 d.1.1 d.1.2.1 d.1.2.2.2.2.2.1
abbrev pk_lmarkJobS_0 (x0 : List (Int × (List (Int × ByteArray × ByteArray)) × Int × List Int)) (x1 : Int) (x5 : Int) : S_lmarkJobS_0.den := ((x0, x1, (), (), (), x5, (), (), (), (), (), (), (), (), (), (), (), (), (), (), (), (), (), (), (), (), (), (), (), (), (), (), (), (), (), (), (), (), (), (), (), ()), ())
noncomputable def body_lmarkJobS_0 : Code := ((loopsIn 0 (bodyOf Try.f92)).getD 0 (0, .skip)).2
theorem R_lmarkJobS_0 (x0 : List (Int × (List (Int × ByteArray × ByteArray)) × Int × List Int)) (x1 : Int) (x5 : Int) : (T_lmarkJobS_0 x0 x1 x5).val (D := S_lmarkJobS_0.den) = .fail ∨ Runs sp_lmarkJobS_0 (pk_lmarkJobS_0 x0 x1 x5) (T_lmarkJobS_0 x0 x1 x5).val := by
  cases hc : (decide (0 ≤ x5) && decide (x0.length = 0)) with
  | false => left; simp only [T_lmarkJobS_0, CT.val, hc, cond_false]
  | true =>
    right
    simp only [T_lmarkJobS_0, CT.val, hc, cond_true]
    simp only [Bool.and_eq_true, decide_eq_true_eq] at hc
    have h1 : decide (x5 < ((x0.length : Nat) : Int)) = false := decide_eq_false (by omega)
    exact .done (by simp) (by simp only [sp_lmarkJobS_0, st_lmarkJobS_0, RT.val, h1, cond_false])
theorem rd_lmarkJobS_0 : ∀ d base killed, execC Try.prog tt S14 QF14 (fun _ _ => none) 0 body_lmarkJobS_0 (S_lmarkJobS_0.st d base killed) (fun e s' => some (e, S_lmarkJobS_0.cutE (kepts [] [(0, [1])]) e s')) = (sp_lmarkJobS_0 d).opt base killed := by
  intro d base killed
  kernel_rfl
abbrev say_lmarkJobS_0 : St → Option Tree := S_lmarkJobS_0.say [] (fun d => T_lmarkJobS_0 d.1.1 d.1.2.1 d.1.2.2.2.2.2.1)
theorem lw_lmarkJobS_0 : LoopWp Try.prog say_lmarkJobS_0 body_lmarkJobS_0 := SS.wp G14 (fun _ _ => none) (by rw [show loopsIn 0 body_lmarkJobS_0 = [] by kernel_rfl]; simp) S_lmarkJobS_0 (kepts [] [(0, [1])]) [] sp_lmarkJobS_0 rd_lmarkJobS_0 _ (fun d => R_lmarkJobS_0 d.1.1 d.1.2.1 d.1.2.2.2.2.2.1)
def lmarkJobS (a0 : List (Int × (List (Int × ByteArray × ByteArray)) × Int × List Int)) (a1 : Int) : Int := a1
abbrev e_lmarkJobS (r : Int) : AV × List AObj := ((.t true (.int .i64) r), [])
abbrev g_lmarkJobS : pshsDen P_lmarkJobS → AV × List AObj := fun d => e_lmarkJobS (lmarkJobS d.1 d.2.1)
def q_lmarkJobS (a0 : List (Int × (List (Int × ByteArray × ByteArray)) × Int × List Int)) (a1 : Int) : Bool := decide (a0.length = 0)
abbrev pre_lmarkJobS : pshsDen P_lmarkJobS → Bool := fun d => q_lmarkJobS d.1 d.2.1
theorem runA_lmarkJobS (a0 : List (Int × (List (Int × ByteArray × ByteArray)) × Int × List Int)) (a1 : Int) (hp : (decide (a0.length = 0)) = true) : runP true Try.prog tt S14 QF14 (fun b => match b with | 0 => say_lmarkJobS_0 | _ => fun _ => none) Try.f92 (argsMk P_lmarkJobS (a0, (a1, ()))) = some (g_lmarkJobS (a0, (a1, ()))) := by
  refine Eq.trans (b := (cond (decide (0 ≤ (0 : Int)) && decide (a0.length = 0)) (some (e_lmarkJobS a1)) none)) (by kernel_rfl) ?_
  exact (cndT (by simpa using hp) (fun _h => rfl))
theorem run_lmarkJobS : ∀ d, pre_lmarkJobS d = true → runP true Try.prog tt S14 QF14 (fun b => match b with | 0 => say_lmarkJobS_0 | _ => fun _ => none) Try.f92 (argsMk P_lmarkJobS d) = some (g_lmarkJobS d) := fun d hp => runA_lmarkJobS d.1 d.2.1 hp
theorem c_lmarkJobS : PContract Try.prog 92 (sumOf P_lmarkJobS pre_lmarkJobS g_lmarkJobS) := PContract.of_data true G14 (fn := Try.f92) (by kernel_rfl) (L := fun b => match b with | 0 => say_lmarkJobS_0 | _ => fun _ => none) (by rw [show loopsIn 0 (bodyOf Try.f92) = [(0, body_lmarkJobS_0)] by kernel_rfl]; intro p hp; simp only [List.mem_singleton] at hp; subst hp; exact lw_lmarkJobS_0) P_lmarkJobS pre_lmarkJobS g_lmarkJobS run_lmarkJobS
def S15 : Tab := Tab.add S14 92 (lift (sumOf P_lmarkJobS pre_lmarkJobS g_lmarkJobS))
def QF15 : FuncId → Bool := qadd QF14 92
theorem G15 : Good Try.prog tt S15 QF15 := G14.addQ c_lmarkJobS ⟨Try.f92, by kernel_rfl, by kernel_rfl, by kernel_rfl⟩ (fun _ => rfl)

/-! 93 loop.example/g00244/laws.markChoiceS -/
abbrev P_lmarkChoiceS : List PSh := [.t (.sl (.pair (.int .i64) .bool)), .t (.int .i64)]
abbrev S_lmarkChoiceS_0 : SS := ⟨[.t false (.sl (.pair (.int .i64) .bool)), .t true (.int .i64), .junk, .junk, .junk, .t true (.int .i64), .junk, .junk, .junk, .junk, .junk, .junk, .junk, .junk, .junk, .junk, .junk, .junk, .junk, .junk, .junk, .junk, .junk, .junk, .junk, .junk, .junk, .junk, .junk], []⟩
abbrev E_lmarkChoiceS_0_0 : SS := ⟨[.junk, .t true (.int .i64), .junk, .junk, .junk, .junk, .junk, .junk, .junk, .junk, .junk, .junk, .junk, .junk, .junk, .junk, .junk, .junk, .junk, .junk, .junk, .junk, .junk, .junk, .junk, .junk, .junk, .junk, .junk], []⟩
def st_lmarkChoiceS_0 (x0 : List (Int × Bool)) (x1 : Int) (x5 : Int) : RT S_lmarkChoiceS_0.den := (.br (decide (x5 < ((x0.length : Nat) : Int))) (.br (decide (0 ≤ x5 ∧ x5 < ((x0.length : Nat) : Int))) .fail .fail) (.done (.exit 0) E_lmarkChoiceS_0_0 (((), x1, (), (), (), (), (), (), (), (), (), (), (), (), (), (), (), (), (), (), (), (), (), (), (), (), (), (), (), ()), ())))
def T_lmarkChoiceS_0 (x0 : List (Int × Bool)) (x1 : Int) (x5 : Int) : CT := (.br (decide (0 ≤ x5) && decide (x0.length = 0)) (.done (.exit 0) E_lmarkChoiceS_0_0 (((), x1, (), (), (), (), (), (), (), (), (), (), (), (), (), (), (), (), (), (), (), (), (), (), (), (), (), (), (), ()), ())) .fail)
abbrev sp_lmarkChoiceS_0 : S_lmarkChoiceS_0.den → RT S_lmarkChoiceS_0.den := fun d => st_lmarkChoiceS_0 d.1.1 d.1.2.1 d.1.2.2.2.2.2.1
abbrev pk_lmarkChoiceS_0 (x0 : List (Int × Bool)) (x1 : Int) (x5 : Int) : S_lmarkChoiceS_0.den := ((x0, x1, (), (), (), x5, (), (), (), (), (), (), (), (), (), (), (), (), (), (), (), (), (), (), (), (), (), (), (), ()), ())
noncomputable def body_lmarkChoiceS_0 : Code := ((loopsIn 0 (bodyOf Try.f93)).getD 0 (0, .skip)).2
theorem R_lmarkChoiceS_0 (x0 : List (Int × Bool)) (x1 : Int) (x5 : Int) : (T_lmarkChoiceS_0 x0 x1 x5).val (D := S_lmarkChoiceS_0.den) = .fail ∨ Runs sp_lmarkChoiceS_0 (pk_lmarkChoiceS_0 x0 x1 x5) (T_lmarkChoiceS_0 x0 x1 x5).val := by
  cases hc : (decide (0 ≤ x5) && decide (x0.length = 0)) with
  | false => left; simp only [T_lmarkChoiceS_0, CT.val, hc, cond_false]
  | true =>
    right
    simp only [T_lmarkChoiceS_0, CT.val, hc, cond_true]
    simp only [Bool.and_eq_true, decide_eq_true_eq] at hc
    have h1 : decide (x5 < ((x0.length : Nat) : Int)) = false := decide_eq_false (by omega)
    exact .done (by simp) (by simp only [sp_lmarkChoiceS_0, st_lmarkChoiceS_0, RT.val, h1, cond_false])
theorem rd_lmarkChoiceS_0 : ∀ d base killed, execC Try.prog tt S15 QF15 (fun _ _ => none) 0 body_lmarkChoiceS_0 (S_lmarkChoiceS_0.st d base killed) (fun e s' => some (e, S_lmarkChoiceS_0.cutE (kepts [] [(0, [1])]) e s')) = (sp_lmarkChoiceS_0 d).opt base killed := by
  intro d base killed
  kernel_rfl
abbrev say_lmarkChoiceS_0 : St → Option Tree := S_lmarkChoiceS_0.say [] (fun d => T_lmarkChoiceS_0 d.1.1 d.1.2.1 d.1.2.2.2.2.2.1)
theorem lw_lmarkChoiceS_0 : LoopWp Try.prog say_lmarkChoiceS_0 body_lmarkChoiceS_0 := SS.wp G15 (fun _ _ => none) (by rw [show loopsIn 0 body_lmarkChoiceS_0 = [] by kernel_rfl]; simp) S_lmarkChoiceS_0 (kepts [] [(0, [1])]) [] sp_lmarkChoiceS_0 rd_lmarkChoiceS_0 _ (fun d => R_lmarkChoiceS_0 d.1.1 d.1.2.1 d.1.2.2.2.2.2.1)
def lmarkChoiceS (a0 : List (Int × Bool)) (a1 : Int) : Int := a1
abbrev e_lmarkChoiceS (r : Int) : AV × List AObj := ((.t true (.int .i64) r), [])
abbrev g_lmarkChoiceS : pshsDen P_lmarkChoiceS → AV × List AObj := fun d => e_lmarkChoiceS (lmarkChoiceS d.1 d.2.1)
def q_lmarkChoiceS (a0 : List (Int × Bool)) (a1 : Int) : Bool := decide (a0.length = 0)
abbrev pre_lmarkChoiceS : pshsDen P_lmarkChoiceS → Bool := fun d => q_lmarkChoiceS d.1 d.2.1
theorem runA_lmarkChoiceS (a0 : List (Int × Bool)) (a1 : Int) (hp : (decide (a0.length = 0)) = true) : runP true Try.prog tt S15 QF15 (fun b => match b with | 0 => say_lmarkChoiceS_0 | _ => fun _ => none) Try.f93 (argsMk P_lmarkChoiceS (a0, (a1, ()))) = some (g_lmarkChoiceS (a0, (a1, ()))) := by
  refine Eq.trans (b := (cond (decide (0 ≤ (0 : Int)) && decide (a0.length = 0)) (some (e_lmarkChoiceS a1)) none)) (by kernel_rfl) ?_
  exact (cndT (by simpa using hp) (fun _h => rfl))
theorem run_lmarkChoiceS : ∀ d, pre_lmarkChoiceS d = true → runP true Try.prog tt S15 QF15 (fun b => match b with | 0 => say_lmarkChoiceS_0 | _ => fun _ => none) Try.f93 (argsMk P_lmarkChoiceS d) = some (g_lmarkChoiceS d) := fun d hp => runA_lmarkChoiceS d.1 d.2.1 hp
theorem c_lmarkChoiceS : PContract Try.prog 93 (sumOf P_lmarkChoiceS pre_lmarkChoiceS g_lmarkChoiceS) := PContract.of_data true G15 (fn := Try.f93) (by kernel_rfl) (L := fun b => match b with | 0 => say_lmarkChoiceS_0 | _ => fun _ => none) (by rw [show loopsIn 0 (bodyOf Try.f93) = [(0, body_lmarkChoiceS_0)] by kernel_rfl]; intro p hp; simp only [List.mem_singleton] at hp; subst hp; exact lw_lmarkChoiceS_0) P_lmarkChoiceS pre_lmarkChoiceS g_lmarkChoiceS run_lmarkChoiceS
def S16 : Tab := Tab.add S15 93 (lift (sumOf P_lmarkChoiceS pre_lmarkChoiceS g_lmarkChoiceS))
def QF16 : FuncId → Bool := qadd QF15 93
theorem G16 : Good Try.prog tt S16 QF16 := G15.addQ c_lmarkChoiceS ⟨Try.f93, by kernel_rfl, by kernel_rfl, by kernel_rfl⟩ (fun _ => rfl)

/-! 33 loop.example/g00244/laws.markCoord -/
abbrev P_lmarkCoord : List PSh := [.agg [(.int .i64), (.int .i64), (.int .i64), (.sl (.pair (.int .i64) (.pair (.sl (.pair (.int .i64) (.pair .str .str))) (.pair (.int .i64) (.sl (.int .i64)))))), (.sl (.pair (.int .i64) .bool)), (.int .i64)], .t (.int .i64)]
def lmarkCoord (a0 : Int) (a1 : Int) (a2 : Int) (a3 : List (Int × (List (Int × ByteArray × ByteArray)) × Int × List Int)) (a4 : List (Int × Bool)) (a5 : Int) (a6 : Int) : Int := (lmarkChoiceS a4 (lmarkJobS a3 a6))
abbrev e_lmarkCoord (r : Int) : AV × List AObj := ((.t true (.int .i64) r), [])
abbrev g_lmarkCoord : pshsDen P_lmarkCoord → AV × List AObj := fun d => e_lmarkCoord (lmarkCoord d.1.1 d.1.2.1 d.1.2.2.1 d.1.2.2.2.1 d.1.2.2.2.2.1 d.1.2.2.2.2.2.1 d.2.1)
def q_lmarkCoord (a0 : Int) (a1 : Int) (a2 : Int) (a3 : List (Int × (List (Int × ByteArray × ByteArray)) × Int × List Int)) (a4 : List (Int × Bool)) (a5 : Int) (a6 : Int) : Bool := (q_lmarkJobS a3 a6) && (q_lmarkChoiceS a4 (lmarkJobS a3 a6))
abbrev pre_lmarkCoord : pshsDen P_lmarkCoord → Bool := fun d => q_lmarkCoord d.1.1 d.1.2.1 d.1.2.2.1 d.1.2.2.2.1 d.1.2.2.2.2.1 d.1.2.2.2.2.2.1 d.2.1
theorem runA_lmarkCoord (a0 : Int) (a1 : Int) (a2 : Int) (a3 : List (Int × (List (Int × ByteArray × ByteArray)) × Int × List Int)) (a4 : List (Int × Bool)) (a5 : Int) (a6 : Int) (hp : ((q_lmarkJobS a3 a6) && (q_lmarkChoiceS a4 (lmarkJobS a3 a6))) = true) : runP true Try.prog tt S16 QF16 (fun _ _ => none) Try.f33 (argsMk P_lmarkCoord ((a0, (a1, (a2, (a3, (a4, (a5, ())))))), (a6, ()))) = some (g_lmarkCoord ((a0, (a1, (a2, (a3, (a4, (a5, ())))))), (a6, ()))) := by
  refine Eq.trans (b := (cond (q_lmarkJobS a3 a6) (cond (q_lmarkChoiceS a4 (lmarkJobS a3 a6)) (some (e_lmarkCoord (lmarkChoiceS a4 (lmarkJobS a3 a6)))) none) none)) (by kernel_rfl) ?_
  exact (cndT (by first | rfl | decide | exact hp | (simp only [Bool.and_eq_true] at hp; simp only [hp]; done) | (simp [*]; done) | (simp [okL] at hp; simp [okL, MAXB]; omega) | (simp_all; done) | (simp at *; omega)) (fun _h => (cndT (by first | rfl | decide | exact hp | (simp only [Bool.and_eq_true] at hp; simp only [hp]; done) | (simp [*]; done) | (simp [okL] at hp; simp [okL, MAXB]; omega) | (simp_all; done) | (simp at *; omega)) (fun _h => rfl))))
theorem run_lmarkCoord : ∀ d, pre_lmarkCoord d = true → runP true Try.prog tt S16 QF16 (fun _ _ => none) Try.f33 (argsMk P_lmarkCoord d) = some (g_lmarkCoord d) := fun d hp => runA_lmarkCoord d.1.1 d.1.2.1 d.1.2.2.1 d.1.2.2.2.1 d.1.2.2.2.2.1 d.1.2.2.2.2.2.1 d.2.1 hp
theorem c_lmarkCoord : PContract Try.prog 33 (sumOf P_lmarkCoord pre_lmarkCoord g_lmarkCoord) := PContract.of_data true G16 (fn := Try.f33) (by kernel_rfl) (L := fun _ _ => none) (by rw [show loopsIn 0 (bodyOf Try.f33) = [] by kernel_rfl]; simp) P_lmarkCoord pre_lmarkCoord g_lmarkCoord run_lmarkCoord
def S17 : Tab := Tab.add S16 33 (lift (sumOf P_lmarkCoord pre_lmarkCoord g_lmarkCoord))
def QF17 : FuncId → Bool := qadd QF16 33
theorem G17 : Good Try.prog tt S17 QF17 := G16.addQ c_lmarkCoord ⟨Try.f33, by kernel_rfl, by kernel_rfl, by kernel_rfl⟩ (fun _ => rfl)

/-! 128 loop.example/g00244/laws.heldOpS -/
abbrev P_lheldOpS : List PSh := [.t (.sl (.pair (.int .i64) (.pair .str .str))), .t (.int .i64)]
abbrev S_lheldOpS_0 : SS := ⟨[.t false (.sl (.pair (.int .i64) (.pair .str .str))), .t true (.int .i64), .junk, .junk, .junk, .t true (.int .i64), .junk, .junk, .junk, .junk, .junk, .junk, .junk, .junk, .junk, .junk, .junk, .junk, .junk, .junk, .junk, .junk, .junk, .junk, .junk, .junk, .junk, .junk, .junk, .junk, .junk, .junk, .junk, .junk, .junk, .junk, .junk, .junk, .junk, .junk, .junk, .junk], []⟩
abbrev E_lheldOpS_0_0 : SS := ⟨[.junk, .junk, .junk, .junk, .t true (.int .i64), .junk, .junk, .junk, .junk, .junk, .junk, .junk, .junk, .junk, .junk, .junk, .junk, .junk, .junk, .junk, .junk, .junk, .junk, .junk, .junk, .junk, .junk, .junk, .junk, .junk, .junk, .junk, .junk, .junk, .junk, .junk, .junk, .junk, .junk, .junk, .junk, .junk], []⟩
abbrev E_lheldOpS_0_1 : SS := ⟨[.junk, .t true (.int .i64), .junk, .junk, .junk, .junk, .junk, .junk, .junk, .junk, .junk, .junk, .junk, .junk, .junk, .junk, .junk, .junk, .junk, .junk, .junk, .junk, .junk, .junk, .junk, .junk, .junk, .junk, .junk, .junk, .junk, .junk, .junk, .junk, .junk, .junk, .junk, .junk, .junk, .junk, .junk, .junk], []⟩
def st_lheldOpS_0 (x0 : List (Int × ByteArray × ByteArray)) (x1 : Int) (x5 : Int) : RT S_lheldOpS_0.den := (.br (decide (x5 < ((x0.length : Nat) : Int))) (.br (decide (0 ≤ x5 ∧ x5 < ((x0.length : Nat) : Int))) (.br (((x0.getD x5.toNat ((0 : Int), ((⟨#[]⟩ : ByteArray), (⟨#[]⟩ : ByteArray)))).1) != x1) (.done .ret E_lheldOpS_0_0 (((), (), (), (), (-1 : Int), (), (), (), (), (), (), (), (), (), (), (), (), (), (), (), (), (), (), (), (), (), (), (), (), (), (), (), (), (), (), (), (), (), (), (), (), (), ()), ())) .fail) .fail) (.done (.exit 0) E_lheldOpS_0_1 (((), x1, (), (), (), (), (), (), (), (), (), (), (), (), (), (), (), (), (), (), (), (), (), (), (), (), (), (), (), (), (), (), (), (), (), (), (), (), (), (), (), (), ()), ())))
def T_lheldOpS_0 (x0 : List (Int × ByteArray × ByteArray)) (x1 : Int) (x5 : Int) : CT := (.br (decide (0 ≤ x5) && decide (x0.length = 0)) (.done (.exit 0) E_lheldOpS_0_1 (((), x1, (), (), (), (), (), (), (), (), (), (), (), (), (), (), (), (), (), (), (), (), (), (), (), (), (), (), (), (), (), (), (), (), (), (), (), (), (), (), (), (), ()), ())) .fail)
abbrev sp_lheldOpS_0 : S_lheldOpS_0.den → RT S_lheldOpS_0.den := fun d => st_lheldOpS_0 d.1.1 d.1.2.1 d.1.2.2.2.2.2.1
abbrev pk_lheldOpS_0 (x0 : List (Int × ByteArray × ByteArray)) (x1 : Int) (x5 : Int) : S_lheldOpS_0.den := ((x0, x1, (), (), (), x5, (), (), (), (), (), (), (), (), (), (), (), (), (), (), (), (), (), (), (), (), (), (), (), (), (), (), (), (), (), (), (), (), (), (), (), (), ()), ())
noncomputable def body_lheldOpS_0 : Code := ((loopsIn 0 (bodyOf Try.f128)).getD 0 (0, .skip)).2
theorem R_lheldOpS_0 (x0 : List (Int × ByteArray × ByteArray)) (x1 : Int) (x5 : Int) : (T_lheldOpS_0 x0 x1 x5).val (D := S_lheldOpS_0.den) = .fail ∨ Runs sp_lheldOpS_0 (pk_lheldOpS_0 x0 x1 x5) (T_lheldOpS_0 x0 x1 x5).val := by
  cases hc : (decide (0 ≤ x5) && decide (x0.length = 0)) with
  | false => left; simp only [T_lheldOpS_0, CT.val, hc, cond_false]
  | true =>
    right
    simp only [T_lheldOpS_0, CT.val, hc, cond_true]
    simp only [Bool.and_eq_true, decide_eq_true_eq] at hc
    have h1 : decide (x5 < ((x0.length : Nat) : Int)) = false := decide_eq_false (by omega)
    exact .done (by simp) (by simp only [sp_lheldOpS_0, st_lheldOpS_0, RT.val, h1, cond_false])
theorem rd_lheldOpS_0 : ∀ d base killed, execC Try.prog tt S17 QF17 (fun _ _ => none) 0 body_lheldOpS_0 (S_lheldOpS_0.st d base killed) (fun e s' => some (e, S_lheldOpS_0.cutE (kepts [4] [(0, [1])]) e s')) = (sp_lheldOpS_0 d).opt base killed := by
  intro d base killed
  kernel_rfl
abbrev say_lheldOpS_0 : St → Option Tree := S_lheldOpS_0.say [] (fun d => T_lheldOpS_0 d.1.1 d.1.2.1 d.1.2.2.2.2.2.1)
theorem lw_lheldOpS_0 : LoopWp Try.prog say_lheldOpS_0 body_lheldOpS_0 := SS.wp G17 (fun _ _ => none) (by rw [show loopsIn 0 body_lheldOpS_0 = [] by kernel_rfl]; simp) S_lheldOpS_0 (kepts [4] [(0, [1])]) [] sp_lheldOpS_0 rd_lheldOpS_0 _ (fun d => R_lheldOpS_0 d.1.1 d.1.2.1 d.1.2.2.2.2.2.1)
def lheldOpS (a0 : List (Int × ByteArray × ByteArray)) (a1 : Int) : Int := a1
abbrev e_lheldOpS (r : Int) : AV × List AObj := ((.t true (.int .i64) r), [])
abbrev g_lheldOpS : pshsDen P_lheldOpS → AV × List AObj := fun d => e_lheldOpS (lheldOpS d.1 d.2.1)
def q_lheldOpS (a0 : List (Int × ByteArray × ByteArray)) (a1 : Int) : Bool := decide (a0.length = 0)
abbrev pre_lheldOpS : pshsDen P_lheldOpS → Bool := fun d => q_lheldOpS d.1 d.2.1
theorem runA_lheldOpS (a0 : List (Int × ByteArray × ByteArray)) (a1 : Int) (hp : (decide (a0.length = 0)) = true) : runP true Try.prog tt S17 QF17 (fun b => match b with | 0 => say_lheldOpS_0 | _ => fun _ => none) Try.f128 (argsMk P_lheldOpS (a0, (a1, ()))) = some (g_lheldOpS (a0, (a1, ()))) := by
  refine Eq.trans (b := (cond (decide (0 ≤ (0 : Int)) && decide (a0.length = 0)) (some (e_lheldOpS a1)) none)) (by kernel_rfl) ?_
  exact (cndT (by simpa using hp) (fun _h => rfl))
theorem run_lheldOpS : ∀ d, pre_lheldOpS d = true → runP true Try.prog tt S17 QF17 (fun b => match b with | 0 => say_lheldOpS_0 | _ => fun _ => none) Try.f128 (argsMk P_lheldOpS d) = some (g_lheldOpS d) := fun d hp => runA_lheldOpS d.1 d.2.1 hp
theorem c_lheldOpS : PContract Try.prog 128 (sumOf P_lheldOpS pre_lheldOpS g_lheldOpS) := PContract.of_data true G17 (fn := Try.f128) (by kernel_rfl) (L := fun b => match b with | 0 => say_lheldOpS_0 | _ => fun _ => none) (by rw [show loopsIn 0 (bodyOf Try.f128) = [(0, body_lheldOpS_0)] by kernel_rfl]; intro p hp; simp only [List.mem_singleton] at hp; subst hp; exact lw_lheldOpS_0) P_lheldOpS pre_lheldOpS g_lheldOpS run_lheldOpS
def S18 : Tab := Tab.add S17 128 (lift (sumOf P_lheldOpS pre_lheldOpS g_lheldOpS))
def QF18 : FuncId → Bool := qadd QF17 128
theorem G18 : Good Try.prog tt S18 QF18 := G17.addQ c_lheldOpS ⟨Try.f128, by kernel_rfl, by kernel_rfl, by kernel_rfl⟩ (fun _ => rfl)

/-! 82 loop.example/g00244/laws.heldIntS -/
abbrev P_lheldIntS : List PSh := [.t (.sl (.int .i64)), .t (.int .i64)]
abbrev S_lheldIntS_0 : SS := ⟨[.t false (.sl (.int .i64)), .t true (.int .i64), .junk, .junk, .junk, .t true (.int .i64), .junk, .junk, .junk, .junk, .junk, .junk, .junk, .junk, .junk, .junk, .junk, .junk, .junk, .junk, .junk], []⟩
abbrev E_lheldIntS_0_0 : SS := ⟨[.junk, .junk, .junk, .junk, .t true (.int .i64), .junk, .junk, .junk, .junk, .junk, .junk, .junk, .junk, .junk, .junk, .junk, .junk, .junk, .junk, .junk, .junk], []⟩
abbrev E_lheldIntS_0_1 : SS := ⟨[.junk, .t true (.int .i64), .junk, .junk, .junk, .junk, .junk, .junk, .junk, .junk, .junk, .junk, .junk, .junk, .junk, .junk, .junk, .junk, .junk, .junk, .junk], []⟩
def st_lheldIntS_0 (x0 : List Int) (x1 : Int) (x5 : Int) : RT S_lheldIntS_0.den := (.br (decide (x5 < ((x0.length : Nat) : Int))) (.br (decide (0 ≤ x5 ∧ x5 < ((x0.length : Nat) : Int))) (.br ((x0.getD x5.toNat (0 : Int)) != x1) (.done .ret E_lheldIntS_0_0 (((), (), (), (), (-1 : Int), (), (), (), (), (), (), (), (), (), (), (), (), (), (), (), (), ()), ())) (.next ((x0, IntKind.wrap .i64 (x1 + (1 : Int)), (), (), (), IntKind.wrap .i64 (x5 + (1 : Int)), (), (), (), (), (), (), (), (), (), (), (), (), (), (), (), ()), ()))) .fail) (.done (.exit 0) E_lheldIntS_0_1 (((), x1, (), (), (), (), (), (), (), (), (), (), (), (), (), (), (), (), (), (), (), ()), ())))
def T_lheldIntS_0 (x0 : List Int) (x1 : Int) (x5 : Int) : CT := (.br (decide (0 ≤ x5) && decide (x0.length = 0)) (.done (.exit 0) E_lheldIntS_0_1 (((), x1, (), (), (), (), (), (), (), (), (), (), (), (), (), (), (), (), (), (), (), ()), ())) .fail)
abbrev sp_lheldIntS_0 : S_lheldIntS_0.den → RT S_lheldIntS_0.den := fun d => st_lheldIntS_0 d.1.1 d.1.2.1 d.1.2.2.2.2.2.1
abbrev pk_lheldIntS_0 (x0 : List Int) (x1 : Int) (x5 : Int) : S_lheldIntS_0.den := ((x0, x1, (), (), (), x5, (), (), (), (), (), (), (), (), (), (), (), (), (), (), (), ()), ())
noncomputable def body_lheldIntS_0 : Code := ((loopsIn 0 (bodyOf Try.f82)).getD 0 (0, .skip)).2
theorem R_lheldIntS_0 (x0 : List Int) (x1 : Int) (x5 : Int) : (T_lheldIntS_0 x0 x1 x5).val (D := S_lheldIntS_0.den) = .fail ∨ Runs sp_lheldIntS_0 (pk_lheldIntS_0 x0 x1 x5) (T_lheldIntS_0 x0 x1 x5).val := by
  cases hc : (decide (0 ≤ x5) && decide (x0.length = 0)) with
  | false => left; simp only [T_lheldIntS_0, CT.val, hc, cond_false]
  | true =>
    right
    simp only [T_lheldIntS_0, CT.val, hc, cond_true]
    simp only [Bool.and_eq_true, decide_eq_true_eq] at hc
    have h1 : decide (x5 < ((x0.length : Nat) : Int)) = false := decide_eq_false (by omega)
    exact .done (by simp) (by simp only [sp_lheldIntS_0, st_lheldIntS_0, RT.val, h1, cond_false])
theorem rd_lheldIntS_0 : ∀ d base killed, execC Try.prog tt S18 QF18 (fun _ _ => none) 0 body_lheldIntS_0 (S_lheldIntS_0.st d base killed) (fun e s' => some (e, S_lheldIntS_0.cutE (kepts [4] [(0, [1])]) e s')) = (sp_lheldIntS_0 d).opt base killed := by
  intro d base killed
  kernel_rfl
abbrev say_lheldIntS_0 : St → Option Tree := S_lheldIntS_0.say [] (fun d => T_lheldIntS_0 d.1.1 d.1.2.1 d.1.2.2.2.2.2.1)
theorem lw_lheldIntS_0 : LoopWp Try.prog say_lheldIntS_0 body_lheldIntS_0 := SS.wp G18 (fun _ _ => none) (by rw [show loopsIn 0 body_lheldIntS_0 = [] by kernel_rfl]; simp) S_lheldIntS_0 (kepts [4] [(0, [1])]) [] sp_lheldIntS_0 rd_lheldIntS_0 _ (fun d => R_lheldIntS_0 d.1.1 d.1.2.1 d.1.2.2.2.2.2.1)
def lheldIntS (a0 : List Int) (a1 : Int) : Int := a1
abbrev e_lheldIntS (r : Int) : AV × List AObj := ((.t true (.int .i64) r), [])
abbrev g_lheldIntS : pshsDen P_lheldIntS → AV × List AObj := fun d => e_lheldIntS (lheldIntS d.1 d.2.1)
def q_lheldIntS (a0 : List Int) (a1 : Int) : Bool := decide (a0.length = 0)
abbrev pre_lheldIntS : pshsDen P_lheldIntS → Bool := fun d => q_lheldIntS d.1 d.2.1
theorem runA_lheldIntS (a0 : List Int) (a1 : Int) (hp : (decide (a0.length = 0)) = true) : runP true Try.prog tt S18 QF18 (fun b => match b with | 0 => say_lheldIntS_0 | _ => fun _ => none) Try.f82 (argsMk P_lheldIntS (a0, (a1, ()))) = some (g_lheldIntS (a0, (a1, ()))) := by
  refine Eq.trans (b := (cond (decide (0 ≤ (0 : Int)) && decide (a0.length = 0)) (some (e_lheldIntS a1)) none)) (by kernel_rfl) ?_
  exact (cndT (by simpa using hp) (fun _h => rfl))
theorem run_lheldIntS : ∀ d, pre_lheldIntS d = true → runP true Try.prog tt S18 QF18 (fun b => match b with | 0 => say_lheldIntS_0 | _ => fun _ => none) Try.f82 (argsMk P_lheldIntS d) = some (g_lheldIntS d) := fun d hp => runA_lheldIntS d.1 d.2.1 hp
theorem c_lheldIntS : PContract Try.prog 82 (sumOf P_lheldIntS pre_lheldIntS g_lheldIntS) := PContract.of_data true G18 (fn := Try.f82) (by kernel_rfl) (L := fun b => match b with | 0 => say_lheldIntS_0 | _ => fun _ => none) (by rw [show loopsIn 0 (bodyOf Try.f82) = [(0, body_lheldIntS_0)] by kernel_rfl]; intro p hp; simp only [List.mem_singleton] at hp; subst hp; exact lw_lheldIntS_0) P_lheldIntS pre_lheldIntS g_lheldIntS run_lheldIntS
def S19 : Tab := Tab.add S18 82 (lift (sumOf P_lheldIntS pre_lheldIntS g_lheldIntS))
def QF19 : FuncId → Bool := qadd QF18 82
theorem G19 : Good Try.prog tt S19 QF19 := G18.addQ c_lheldIntS ⟨Try.f82, by kernel_rfl, by kernel_rfl, by kernel_rfl⟩ (fun _ => rfl)

/-! 94 loop.example/g00244/laws.heldJobS -/
abbrev P_lheldJobS : List PSh := [.t (.sl (.pair (.int .i64) (.pair (.sl (.pair (.int .i64) (.pair .str .str))) (.pair (.int .i64) (.sl (.int .i64)))))), .t (.int .i64)]
abbrev S_lheldJobS_0 : SS := ⟨[.t false (.sl (.pair (.int .i64) (.pair (.sl (.pair (.int .i64) (.pair .str .str))) (.pair (.int .i64) (.sl (.int .i64)))))), .t true (.int .i64), .junk, .junk, .junk, .t true (.int .i64), .junk, .junk, .junk, .junk, .junk, .junk, .junk, .junk, .junk, .junk, .junk, .junk, .junk, .junk, .junk, .junk, .junk, .junk, .junk, .junk, .junk, .junk, .junk, .junk, .junk, .junk, .junk, .junk, .junk, .junk, .junk, .junk, .junk, .junk, .junk, .junk, .junk, .junk, .junk, .junk, .junk, .junk, .junk], []⟩
abbrev E_lheldJobS_0_0 : SS := ⟨[.junk, .junk, .junk, .junk, .t true (.int .i64), .junk, .junk, .junk, .junk, .junk, .junk, .junk, .junk, .junk, .junk, .junk, .junk, .junk, .junk, .junk, .junk, .junk, .junk, .junk, .junk, .junk, .junk, .junk, .junk, .junk, .junk, .junk, .junk, .junk, .junk, .junk, .junk, .junk, .junk, .junk, .junk, .junk, .junk, .junk, .junk, .junk, .junk, .junk, .junk], []⟩
abbrev E_lheldJobS_0_1 : SS := ⟨[.junk, .t true (.int .i64), .junk, .junk, .junk, .junk, .junk, .junk, .junk, .junk, .junk, .junk, .junk, .junk, .junk, .junk, .junk, .junk, .junk, .junk, .junk, .junk, .junk, .junk, .junk, .junk, .junk, .junk, .junk, .junk, .junk, .junk, .junk, .junk, .junk, .junk, .junk, .junk, .junk, .junk, .junk, .junk, .junk, .junk, .junk, .junk, .junk, .junk, .junk], []⟩
def st_lheldJobS_0 (x0 : List (Int × (List (Int × ByteArray × ByteArray)) × Int × List Int)) (x1 : Int) (x5 : Int) : RT S_lheldJobS_0.den := (.br (decide (x5 < ((x0.length : Nat) : Int))) (.br (decide (0 ≤ x5 ∧ x5 < ((x0.length : Nat) : Int))) (.br (((x0.getD x5.toNat ((0 : Int), ([], ((0 : Int), [])))).1) != x1) (.done .ret E_lheldJobS_0_0 (((), (), (), (), (-1 : Int), (), (), (), (), (), (), (), (), (), (), (), (), (), (), (), (), (), (), (), (), (), (), (), (), (), (), (), (), (), (), (), (), (), (), (), (), (), (), (), (), (), (), (), (), ()), ())) (.br (decide (0 ≤ x5 ∧ x5 < ((x0.length : Nat) : Int))) (.br (q_lheldOpS (((x0.getD x5.toNat ((0 : Int), ([], ((0 : Int), [])))).2).1) (IntKind.wrap .i64 (x1 + (1 : Int)))) (.br (decide ((lheldOpS (((x0.getD x5.toNat ((0 : Int), ([], ((0 : Int), [])))).2).1) (IntKind.wrap .i64 (x1 + (1 : Int)))) < (0 : Int))) (.done .ret E_lheldJobS_0_0 (((), (), (), (), (-1 : Int), (), (), (), (), (), (), (), (), (), (), (), (), (), (), (), (), (), (), (), (), (), (), (), (), (), (), (), (), (), (), (), (), (), (), (), (), (), (), (), (), (), (), (), (), ()), ())) (.br (decide (0 ≤ x5 ∧ x5 < ((x0.length : Nat) : Int))) (.br (((((x0.getD x5.toNat ((0 : Int), ([], ((0 : Int), [])))).2).2).1) != (lheldOpS (((x0.getD x5.toNat ((0 : Int), ([], ((0 : Int), [])))).2).1) (IntKind.wrap .i64 (x1 + (1 : Int))))) (.done .ret E_lheldJobS_0_0 (((), (), (), (), (-1 : Int), (), (), (), (), (), (), (), (), (), (), (), (), (), (), (), (), (), (), (), (), (), (), (), (), (), (), (), (), (), (), (), (), (), (), (), (), (), (), (), (), (), (), (), (), ()), ())) (.br (decide (0 ≤ x5 ∧ x5 < ((x0.length : Nat) : Int))) (.br (q_lheldIntS ((((x0.getD x5.toNat ((0 : Int), ([], ((0 : Int), [])))).2).2).2) (IntKind.wrap .i64 ((lheldOpS (((x0.getD x5.toNat ((0 : Int), ([], ((0 : Int), [])))).2).1) (IntKind.wrap .i64 (x1 + (1 : Int)))) + (1 : Int)))) (.br (decide ((lheldIntS ((((x0.getD x5.toNat ((0 : Int), ([], ((0 : Int), [])))).2).2).2) (IntKind.wrap .i64 ((lheldOpS (((x0.getD x5.toNat ((0 : Int), ([], ((0 : Int), [])))).2).1) (IntKind.wrap .i64 (x1 + (1 : Int)))) + (1 : Int)))) < (0 : Int))) (.done .ret E_lheldJobS_0_0 (((), (), (), (), (-1 : Int), (), (), (), (), (), (), (), (), (), (), (), (), (), (), (), (), (), (), (), (), (), (), (), (), (), (), (), (), (), (), (), (), (), (), (), (), (), (), (), (), (), (), (), (), ()), ())) (.next ((x0, (lheldIntS ((((x0.getD x5.toNat ((0 : Int), ([], ((0 : Int), [])))).2).2).2) (IntKind.wrap .i64 ((lheldOpS (((x0.getD x5.toNat ((0 : Int), ([], ((0 : Int), [])))).2).1) (IntKind.wrap .i64 (x1 + (1 : Int)))) + (1 : Int)))), (), (), (), IntKind.wrap .i64 (x5 + (1 : Int)), (), (), (), (), (), (), (), (), (), (), (), (), (), (), (), (), (), (), (), (), (), (), (), (), (), (), (), (), (), (), (), (), (), (), (), (), (), (), (), (), (), (), (), ()), ()))) .fail) .fail)) .fail)) .fail) .fail)) .fail) (.done (.exit 0) E_lheldJobS_0_1 (((), x1, (), (), (), (), (), (), (), (), (), (), (), (), (), (), (), (), (), (), (), (), (), (), (), (), (), (), (), (), (), (), (), (), (), (), (), (), (), (), (), (), (), (), (), (), (), (), (), ()), ())))
def T_lheldJobS_0 (x0 : List (Int × (List (Int × ByteArray × ByteArray)) × Int × List Int)) (x1 : Int) (x5 : Int) : CT := (.br (decide (0 ≤ x5) && decide (x0.length = 0)) (.done (.exit 0) E_lheldJobS_0_1 (((), x1, (), (), (), (), (), (), (), (), (), (), (), (), (), (), (), (), (), (), (), (), (), (), (), (), (), (), (), (), (), (), (), (), (), (), (), (), (), (), (), (), (), (), (), (), (), (), (), ()), ())) .fail)
abbrev sp_lheldJobS_0 : S_lheldJobS_0.den → RT S_lheldJobS_0.den := fun d => st_lheldJobS_0 d.1.1 d.1.2.1 d.1.2.2.2.2.2.1
abbrev pk_lheldJobS_0 (x0 : List (Int × (List (Int × ByteArray × ByteArray)) × Int × List Int)) (x1 : Int) (x5 : Int) : S_lheldJobS_0.den := ((x0, x1, (), (), (), x5, (), (), (), (), (), (), (), (), (), (), (), (), (), (), (), (), (), (), (), (), (), (), (), (), (), (), (), (), (), (), (), (), (), (), (), (), (), (), (), (), (), (), (), ()), ())
noncomputable def body_lheldJobS_0 : Code := ((loopsIn 0 (bodyOf Try.f94)).getD 0 (0, .skip)).2
theorem R_lheldJobS_0 (x0 : List (Int × (List (Int × ByteArray × ByteArray)) × Int × List Int)) (x1 : Int) (x5 : Int) : (T_lheldJobS_0 x0 x1 x5).val (D := S_lheldJobS_0.den) = .fail ∨ Runs sp_lheldJobS_0 (pk_lheldJobS_0 x0 x1 x5) (T_lheldJobS_0 x0 x1 x5).val := by
  cases hc : (decide (0 ≤ x5) && decide (x0.length = 0)) with
  | false => left; simp only [T_lheldJobS_0, CT.val, hc, cond_false]
  | true =>
    right
    simp only [T_lheldJobS_0, CT.val, hc, cond_true]
    simp only [Bool.and_eq_true, decide_eq_true_eq] at hc
    have h1 : decide (x5 < ((x0.length : Nat) : Int)) = false := decide_eq_false (by omega)
    exact .done (by simp) (by simp only [sp_lheldJobS_0, st_lheldJobS_0, RT.val, h1, cond_false])
theorem rd_lheldJobS_0 : ∀ d base killed, execC Try.prog tt S19 QF19 (fun _ _ => none) 0 body_lheldJobS_0 (S_lheldJobS_0.st d base killed) (fun e s' => some (e, S_lheldJobS_0.cutE (kepts [4] [(0, [1])]) e s')) = (sp_lheldJobS_0 d).opt base killed := by
  intro d base killed
  kernel_rfl
abbrev say_lheldJobS_0 : St → Option Tree := S_lheldJobS_0.say [] (fun d => T_lheldJobS_0 d.1.1 d.1.2.1 d.1.2.2.2.2.2.1)
theorem lw_lheldJobS_0 : LoopWp Try.prog say_lheldJobS_0 body_lheldJobS_0 := SS.wp G19 (fun _ _ => none) (by rw [show loopsIn 0 body_lheldJobS_0 = [] by kernel_rfl]; simp) S_lheldJobS_0 (kepts [4] [(0, [1])]) [] sp_lheldJobS_0 rd_lheldJobS_0 _ (fun d => R_lheldJobS_0 d.1.1 d.1.2.1 d.1.2.2.2.2.2.1)
def lheldJobS (a0 : List (Int × (List (Int × ByteArray × ByteArray)) × Int × List Int)) (a1 : Int) : Int := a1
abbrev e_lheldJobS (r : Int) : AV × List AObj := ((.t true (.int .i64) r), [])
abbrev g_lheldJobS : pshsDen P_lheldJobS → AV × List AObj := fun d => e_lheldJobS (lheldJobS d.1 d.2.1)
def q_lheldJobS (a0 : List (Int × (List (Int × ByteArray × ByteArray)) × Int × List Int)) (a1 : Int) : Bool := decide (a0.length = 0)
abbrev pre_lheldJobS : pshsDen P_lheldJobS → Bool := fun d => q_lheldJobS d.1 d.2.1
theorem runA_lheldJobS (a0 : List (Int × (List (Int × ByteArray × ByteArray)) × Int × List Int)) (a1 : Int) (hp : (decide (a0.length = 0)) = true) : runP true Try.prog tt S19 QF19 (fun b => match b with | 0 => say_lheldJobS_0 | _ => fun _ => none) Try.f94 (argsMk P_lheldJobS (a0, (a1, ()))) = some (g_lheldJobS (a0, (a1, ()))) := by
  refine Eq.trans (b := (cond (decide (0 ≤ (0 : Int)) && decide (a0.length = 0)) (some (e_lheldJobS a1)) none)) (by kernel_rfl) ?_
  exact (cndT (by simpa using hp) (fun _h => rfl))
theorem run_lheldJobS : ∀ d, pre_lheldJobS d = true → runP true Try.prog tt S19 QF19 (fun b => match b with | 0 => say_lheldJobS_0 | _ => fun _ => none) Try.f94 (argsMk P_lheldJobS d) = some (g_lheldJobS d) := fun d hp => runA_lheldJobS d.1 d.2.1 hp
theorem c_lheldJobS : PContract Try.prog 94 (sumOf P_lheldJobS pre_lheldJobS g_lheldJobS) := PContract.of_data true G19 (fn := Try.f94) (by kernel_rfl) (L := fun b => match b with | 0 => say_lheldJobS_0 | _ => fun _ => none) (by rw [show loopsIn 0 (bodyOf Try.f94) = [(0, body_lheldJobS_0)] by kernel_rfl]; intro p hp; simp only [List.mem_singleton] at hp; subst hp; exact lw_lheldJobS_0) P_lheldJobS pre_lheldJobS g_lheldJobS run_lheldJobS
def S20 : Tab := Tab.add S19 94 (lift (sumOf P_lheldJobS pre_lheldJobS g_lheldJobS))
def QF20 : FuncId → Bool := qadd QF19 94
theorem G20 : Good Try.prog tt S20 QF20 := G19.addQ c_lheldJobS ⟨Try.f94, by kernel_rfl, by kernel_rfl, by kernel_rfl⟩ (fun _ => rfl)

/-! 95 loop.example/g00244/laws.heldChoiceS -/
abbrev P_lheldChoiceS : List PSh := [.t (.sl (.pair (.int .i64) .bool)), .t (.int .i64)]
abbrev S_lheldChoiceS_0 : SS := ⟨[.t false (.sl (.pair (.int .i64) .bool)), .t true (.int .i64), .junk, .junk, .junk, .t true (.int .i64), .junk, .junk, .junk, .junk, .junk, .junk, .junk, .junk, .junk, .junk, .junk, .junk, .junk, .junk, .junk, .junk, .junk, .junk, .junk, .junk, .junk, .junk, .junk, .junk, .junk, .junk, .junk], []⟩
abbrev E_lheldChoiceS_0_0 : SS := ⟨[.junk, .junk, .junk, .junk, .t true (.int .i64), .junk, .junk, .junk, .junk, .junk, .junk, .junk, .junk, .junk, .junk, .junk, .junk, .junk, .junk, .junk, .junk, .junk, .junk, .junk, .junk, .junk, .junk, .junk, .junk, .junk, .junk, .junk, .junk], []⟩
abbrev E_lheldChoiceS_0_1 : SS := ⟨[.junk, .t true (.int .i64), .junk, .junk, .junk, .junk, .junk, .junk, .junk, .junk, .junk, .junk, .junk, .junk, .junk, .junk, .junk, .junk, .junk, .junk, .junk, .junk, .junk, .junk, .junk, .junk, .junk, .junk, .junk, .junk, .junk, .junk, .junk], []⟩
def st_lheldChoiceS_0 (x0 : List (Int × Bool)) (x1 : Int) (x5 : Int) : RT S_lheldChoiceS_0.den := (.br (decide (x5 < ((x0.length : Nat) : Int))) (.br (decide (0 ≤ x5 ∧ x5 < ((x0.length : Nat) : Int))) (.br (((x0.getD x5.toNat ((0 : Int), false)).1) != x1) (.done .ret E_lheldChoiceS_0_0 (((), (), (), (), (-1 : Int), (), (), (), (), (), (), (), (), (), (), (), (), (), (), (), (), (), (), (), (), (), (), (), (), (), (), (), (), ()), ())) (.br (decide (0 ≤ x5 ∧ x5 < ((x0.length : Nat) : Int))) (.br (!(((x0.getD x5.toNat ((0 : Int), false)).2) == ((Int.tmod (IntKind.wrap .i64 (x1 + (1 : Int))) (3 : Int)) == (0 : Int)))) (.done .ret E_lheldChoiceS_0_0 (((), (), (), (), (-1 : Int), (), (), (), (), (), (), (), (), (), (), (), (), (), (), (), (), (), (), (), (), (), (), (), (), (), (), (), (), ()), ())) (.next ((x0, IntKind.wrap .i64 ((IntKind.wrap .i64 (x1 + (1 : Int))) + (1 : Int)), (), (), (), IntKind.wrap .i64 (x5 + (1 : Int)), (), (), (), (), (), (), (), (), (), (), (), (), (), (), (), (), (), (), (), (), (), (), (), (), (), (), (), ()), ()))) .fail)) .fail) (.done (.exit 0) E_lheldChoiceS_0_1 (((), x1, (), (), (), (), (), (), (), (), (), (), (), (), (), (), (), (), (), (), (), (), (), (), (), (), (), (), (), (), (), (), (), ()), ())))
def T_lheldChoiceS_0 (x0 : List (Int × Bool)) (x1 : Int) (x5 : Int) : CT := (.br (decide (0 ≤ x5) && decide (x0.length = 0)) (.done (.exit 0) E_lheldChoiceS_0_1 (((), x1, (), (), (), (), (), (), (), (), (), (), (), (), (), (), (), (), (), (), (), (), (), (), (), (), (), (), (), (), (), (), (), ()), ())) .fail)
abbrev sp_lheldChoiceS_0 : S_lheldChoiceS_0.den → RT S_lheldChoiceS_0.den := fun d => st_lheldChoiceS_0 d.1.1 d.1.2.1 d.1.2.2.2.2.2.1
abbrev pk_lheldChoiceS_0 (x0 : List (Int × Bool)) (x1 : Int) (x5 : Int) : S_lheldChoiceS_0.den := ((x0, x1, (), (), (), x5, (), (), (), (), (), (), (), (), (), (), (), (), (), (), (), (), (), (), (), (), (), (), (), (), (), (), (), ()), ())
noncomputable def body_lheldChoiceS_0 : Code := ((loopsIn 0 (bodyOf Try.f95)).getD 0 (0, .skip)).2
theorem R_lheldChoiceS_0 (x0 : List (Int × Bool)) (x1 : Int) (x5 : Int) : (T_lheldChoiceS_0 x0 x1 x5).val (D := S_lheldChoiceS_0.den) = .fail ∨ Runs sp_lheldChoiceS_0 (pk_lheldChoiceS_0 x0 x1 x5) (T_lheldChoiceS_0 x0 x1 x5).val := by
  cases hc : (decide (0 ≤ x5) && decide (x0.length = 0)) with
  | false => left; simp only [T_lheldChoiceS_0, CT.val, hc, cond_false]
  | true =>
    right
    simp only [T_lheldChoiceS_0, CT.val, hc, cond_true]
    simp only [Bool.and_eq_true, decide_eq_true_eq] at hc
    have h1 : decide (x5 < ((x0.length : Nat) : Int)) = false := decide_eq_false (by omega)
    exact .done (by simp) (by simp only [sp_lheldChoiceS_0, st_lheldChoiceS_0, RT.val, h1, cond_false])
theorem rd_lheldChoiceS_0 : ∀ d base killed, execC Try.prog tt S20 QF20 (fun _ _ => none) 0 body_lheldChoiceS_0 (S_lheldChoiceS_0.st d base killed) (fun e s' => some (e, S_lheldChoiceS_0.cutE (kepts [4] [(0, [1])]) e s')) = (sp_lheldChoiceS_0 d).opt base killed := by
  intro d base killed
  kernel_rfl
abbrev say_lheldChoiceS_0 : St → Option Tree := S_lheldChoiceS_0.say [] (fun d => T_lheldChoiceS_0 d.1.1 d.1.2.1 d.1.2.2.2.2.2.1)
theorem lw_lheldChoiceS_0 : LoopWp Try.prog say_lheldChoiceS_0 body_lheldChoiceS_0 := SS.wp G20 (fun _ _ => none) (by rw [show loopsIn 0 body_lheldChoiceS_0 = [] by kernel_rfl]; simp) S_lheldChoiceS_0 (kepts [4] [(0, [1])]) [] sp_lheldChoiceS_0 rd_lheldChoiceS_0 _ (fun d => R_lheldChoiceS_0 d.1.1 d.1.2.1 d.1.2.2.2.2.2.1)
def lheldChoiceS (a0 : List (Int × Bool)) (a1 : Int) : Int := a1
abbrev e_lheldChoiceS (r : Int) : AV × List AObj := ((.t true (.int .i64) r), [])
abbrev g_lheldChoiceS : pshsDen P_lheldChoiceS → AV × List AObj := fun d => e_lheldChoiceS (lheldChoiceS d.1 d.2.1)
def q_lheldChoiceS (a0 : List (Int × Bool)) (a1 : Int) : Bool := decide (a0.length = 0)
abbrev pre_lheldChoiceS : pshsDen P_lheldChoiceS → Bool := fun d => q_lheldChoiceS d.1 d.2.1
theorem runA_lheldChoiceS (a0 : List (Int × Bool)) (a1 : Int) (hp : (decide (a0.length = 0)) = true) : runP true Try.prog tt S20 QF20 (fun b => match b with | 0 => say_lheldChoiceS_0 | _ => fun _ => none) Try.f95 (argsMk P_lheldChoiceS (a0, (a1, ()))) = some (g_lheldChoiceS (a0, (a1, ()))) := by
  refine Eq.trans (b := (cond (decide (0 ≤ (0 : Int)) && decide (a0.length = 0)) (some (e_lheldChoiceS a1)) none)) (by kernel_rfl) ?_
  exact (cndT (by simpa using hp) (fun _h => rfl))
theorem run_lheldChoiceS : ∀ d, pre_lheldChoiceS d = true → runP true Try.prog tt S20 QF20 (fun b => match b with | 0 => say_lheldChoiceS_0 | _ => fun _ => none) Try.f95 (argsMk P_lheldChoiceS d) = some (g_lheldChoiceS d) := fun d hp => runA_lheldChoiceS d.1 d.2.1 hp
theorem c_lheldChoiceS : PContract Try.prog 95 (sumOf P_lheldChoiceS pre_lheldChoiceS g_lheldChoiceS) := PContract.of_data true G20 (fn := Try.f95) (by kernel_rfl) (L := fun b => match b with | 0 => say_lheldChoiceS_0 | _ => fun _ => none) (by rw [show loopsIn 0 (bodyOf Try.f95) = [(0, body_lheldChoiceS_0)] by kernel_rfl]; intro p hp; simp only [List.mem_singleton] at hp; subst hp; exact lw_lheldChoiceS_0) P_lheldChoiceS pre_lheldChoiceS g_lheldChoiceS run_lheldChoiceS
def S21 : Tab := Tab.add S20 95 (lift (sumOf P_lheldChoiceS pre_lheldChoiceS g_lheldChoiceS))
def QF21 : FuncId → Bool := qadd QF20 95
theorem G21 : Good Try.prog tt S21 QF21 := G20.addQ c_lheldChoiceS ⟨Try.f95, by kernel_rfl, by kernel_rfl, by kernel_rfl⟩ (fun _ => rfl)

/-! 34 loop.example/g00244/laws.heldCoord -/
abbrev P_lheldCoord : List PSh := [.agg [(.int .i64), (.int .i64), (.int .i64), (.sl (.pair (.int .i64) (.pair (.sl (.pair (.int .i64) (.pair .str .str))) (.pair (.int .i64) (.sl (.int .i64)))))), (.sl (.pair (.int .i64) .bool)), (.int .i64)], .t (.int .i64)]
def lheldCoord (a0 : Int) (a1 : Int) (a2 : Int) (a3 : List (Int × (List (Int × ByteArray × ByteArray)) × Int × List Int)) (a4 : List (Int × Bool)) (a5 : Int) (a6 : Int) : Int := (cond (decide ((lheldJobS a3 a6) < (0 : Int))) (-1 : Int) (cond (decide ((lheldChoiceS a4 (lheldJobS a3 a6)) < (0 : Int))) (-1 : Int) (lheldChoiceS a4 (lheldJobS a3 a6))))
abbrev e_lheldCoord (r : Int) : AV × List AObj := ((.t true (.int .i64) r), [])
abbrev g_lheldCoord : pshsDen P_lheldCoord → AV × List AObj := fun d => e_lheldCoord (lheldCoord d.1.1 d.1.2.1 d.1.2.2.1 d.1.2.2.2.1 d.1.2.2.2.2.1 d.1.2.2.2.2.2.1 d.2.1)
def q_lheldCoord (a0 : Int) (a1 : Int) (a2 : Int) (a3 : List (Int × (List (Int × ByteArray × ByteArray)) × Int × List Int)) (a4 : List (Int × Bool)) (a5 : Int) (a6 : Int) : Bool := (q_lheldJobS a3 a6) && (q_lheldChoiceS a4 (lheldJobS a3 a6))
abbrev pre_lheldCoord : pshsDen P_lheldCoord → Bool := fun d => q_lheldCoord d.1.1 d.1.2.1 d.1.2.2.1 d.1.2.2.2.1 d.1.2.2.2.2.1 d.1.2.2.2.2.2.1 d.2.1
theorem runA_lheldCoord (a0 : Int) (a1 : Int) (a2 : Int) (a3 : List (Int × (List (Int × ByteArray × ByteArray)) × Int × List Int)) (a4 : List (Int × Bool)) (a5 : Int) (a6 : Int) (hp : ((q_lheldJobS a3 a6) && (q_lheldChoiceS a4 (lheldJobS a3 a6))) = true) : runP true Try.prog tt S21 QF21 (fun _ _ => none) Try.f34 (argsMk P_lheldCoord ((a0, (a1, (a2, (a3, (a4, (a5, ())))))), (a6, ()))) = some (g_lheldCoord ((a0, (a1, (a2, (a3, (a4, (a5, ())))))), (a6, ()))) := by
  refine Eq.trans (b := (cond (q_lheldJobS a3 a6) (cond (decide ((lheldJobS a3 a6) < (0 : Int))) (some (e_lheldCoord (-1 : Int))) (cond (q_lheldChoiceS a4 (lheldJobS a3 a6)) (cond (decide ((lheldChoiceS a4 (lheldJobS a3 a6)) < (0 : Int))) (some (e_lheldCoord (-1 : Int))) (some (e_lheldCoord (lheldChoiceS a4 (lheldJobS a3 a6))))) none)) none)) (by kernel_rfl) ?_
  exact (cndT (by first | rfl | decide | exact hp | (simp only [Bool.and_eq_true] at hp; simp only [hp]; done) | (simp [*]; done) | (simp [okL] at hp; simp [okL, MAXB]; omega) | (simp_all; done) | (simp at *; omega)) (fun _h => (cnd (F := fun r => some (e_lheldCoord r)) (fun _h => rfl) (fun _h => (cndT (by first | rfl | decide | exact hp | (simp only [Bool.and_eq_true] at hp; simp only [hp]; done) | (simp [*]; done) | (simp [okL] at hp; simp [okL, MAXB]; omega) | (simp_all; done) | (simp at *; omega)) (fun _h => (cnd (F := fun r => some (e_lheldCoord r)) (fun _h => rfl) (fun _h => rfl))))))))
theorem run_lheldCoord : ∀ d, pre_lheldCoord d = true → runP true Try.prog tt S21 QF21 (fun _ _ => none) Try.f34 (argsMk P_lheldCoord d) = some (g_lheldCoord d) := fun d hp => runA_lheldCoord d.1.1 d.1.2.1 d.1.2.2.1 d.1.2.2.2.1 d.1.2.2.2.2.1 d.1.2.2.2.2.2.1 d.2.1 hp
theorem c_lheldCoord : PContract Try.prog 34 (sumOf P_lheldCoord pre_lheldCoord g_lheldCoord) := PContract.of_data true G21 (fn := Try.f34) (by kernel_rfl) (L := fun _ _ => none) (by rw [show loopsIn 0 (bodyOf Try.f34) = [] by kernel_rfl]; simp) P_lheldCoord pre_lheldCoord g_lheldCoord run_lheldCoord
def S22 : Tab := Tab.add S21 34 (lift (sumOf P_lheldCoord pre_lheldCoord g_lheldCoord))
def QF22 : FuncId → Bool := qadd QF21 34
theorem G22 : Good Try.prog tt S22 QF22 := G21.addQ c_lheldCoord ⟨Try.f34, by kernel_rfl, by kernel_rfl, by kernel_rfl⟩ (fun _ => rfl)

/-! 6 loop.example/g00244/laws.FnExactCoordNew -/
abbrev P_lFnExactCoordNew : List PSh := [.t (.int .i64)]
def lFnExactCoordNew (a0 : Int) : Bool := (cond (!(leqCoord ((iCoordNew a0).1) ((iCoordNew a0).2.1) ((iCoordNew a0).2.2.1) ((iCoordNew a0).2.2.2.1) ((iCoordNew a0).2.2.2.2.1) ((iCoordNew a0).2.2.2.2.2) ((sCoordNew a0).1) ((sCoordNew a0).2.1) ((sCoordNew a0).2.2.1) ((sCoordNew a0).2.2.2.1) ((sCoordNew a0).2.2.2.2.1) ((sCoordNew a0).2.2.2.2.2))) false (cond (decide ((lheldCoord ((iCoordNew a0).1) ((iCoordNew a0).2.1) ((iCoordNew a0).2.2.1) ((iCoordNew a0).2.2.2.1) ((iCoordNew a0).2.2.2.2.1) ((iCoordNew a0).2.2.2.2.2) (1 : Int)) < (0 : Int))) false (cond ((lheldCoord ((iCoordNew a0).1) ((iCoordNew a0).2.1) ((iCoordNew a0).2.2.1) ((iCoordNew a0).2.2.2.1) ((iCoordNew a0).2.2.2.2.1) ((iCoordNew a0).2.2.2.2.2) (1 : Int)) != (lmarkCoord ((iCoordNew a0).1) ((iCoordNew a0).2.1) ((iCoordNew a0).2.2.1) ((iCoordNew a0).2.2.2.1) ((iCoordNew a0).2.2.2.2.1) ((iCoordNew a0).2.2.2.2.2) (1 : Int))) false (cond (!(leqCoord ((iCoordNew a0).1) ((iCoordNew a0).2.1) ((iCoordNew a0).2.2.1) ((iCoordNew a0).2.2.2.1) ((iCoordNew a0).2.2.2.2.1) ((iCoordNew a0).2.2.2.2.2) ((sCoordNew a0).1) ((sCoordNew a0).2.1) ((sCoordNew a0).2.2.1) ((sCoordNew a0).2.2.2.1) ((sCoordNew a0).2.2.2.2.1) ((sCoordNew a0).2.2.2.2.2))) false (cond (decide ((lheldCoord ((iCoordNew a0).1) ((iCoordNew a0).2.1) ((iCoordNew a0).2.2.1) ((iCoordNew a0).2.2.2.1) ((iCoordNew a0).2.2.2.2.1) ((iCoordNew a0).2.2.2.2.2) (1 : Int)) < (0 : Int))) false (cond ((lheldCoord ((iCoordNew a0).1) ((iCoordNew a0).2.1) ((iCoordNew a0).2.2.1) ((iCoordNew a0).2.2.2.1) ((iCoordNew a0).2.2.2.2.1) ((iCoordNew a0).2.2.2.2.2) (1 : Int)) != (lmarkCoord ((iCoordNew a0).1) ((iCoordNew a0).2.1) ((iCoordNew a0).2.2.1) ((iCoordNew a0).2.2.2.1) ((iCoordNew a0).2.2.2.2.1) ((iCoordNew a0).2.2.2.2.2) (1 : Int))) false true))))))
abbrev e_lFnExactCoordNew (r : Bool) : AV × List AObj := ((.t true .bool r), [])
abbrev g_lFnExactCoordNew : pshsDen P_lFnExactCoordNew → AV × List AObj := fun d => e_lFnExactCoordNew (lFnExactCoordNew d.1)
def q_lFnExactCoordNew (a0 : Int) : Bool := (q_leqCoord ((iCoordNew a0).1) ((iCoordNew a0).2.1) ((iCoordNew a0).2.2.1) ((iCoordNew a0).2.2.2.1) ((iCoordNew a0).2.2.2.2.1) ((iCoordNew a0).2.2.2.2.2) ((sCoordNew a0).1) ((sCoordNew a0).2.1) ((sCoordNew a0).2.2.1) ((sCoordNew a0).2.2.2.1) ((sCoordNew a0).2.2.2.2.1) ((sCoordNew a0).2.2.2.2.2)) && (q_lmarkCoord ((iCoordNew a0).1) ((iCoordNew a0).2.1) ((iCoordNew a0).2.2.1) ((iCoordNew a0).2.2.2.1) ((iCoordNew a0).2.2.2.2.1) ((iCoordNew a0).2.2.2.2.2) (1 : Int)) && (q_lheldCoord ((iCoordNew a0).1) ((iCoordNew a0).2.1) ((iCoordNew a0).2.2.1) ((iCoordNew a0).2.2.2.1) ((iCoordNew a0).2.2.2.2.1) ((iCoordNew a0).2.2.2.2.2) (1 : Int))
abbrev pre_lFnExactCoordNew : pshsDen P_lFnExactCoordNew → Bool := fun d => q_lFnExactCoordNew d.1
theorem runA_lFnExactCoordNew (a0 : Int) (hp : ((q_leqCoord ((iCoordNew a0).1) ((iCoordNew a0).2.1) ((iCoordNew a0).2.2.1) ((iCoordNew a0).2.2.2.1) ((iCoordNew a0).2.2.2.2.1) ((iCoordNew a0).2.2.2.2.2) ((sCoordNew a0).1) ((sCoordNew a0).2.1) ((sCoordNew a0).2.2.1) ((sCoordNew a0).2.2.2.1) ((sCoordNew a0).2.2.2.2.1) ((sCoordNew a0).2.2.2.2.2)) && (q_lmarkCoord ((iCoordNew a0).1) ((iCoordNew a0).2.1) ((iCoordNew a0).2.2.1) ((iCoordNew a0).2.2.2.1) ((iCoordNew a0).2.2.2.2.1) ((iCoordNew a0).2.2.2.2.2) (1 : Int)) && (q_lheldCoord ((iCoordNew a0).1) ((iCoordNew a0).2.1) ((iCoordNew a0).2.2.1) ((iCoordNew a0).2.2.2.1) ((iCoordNew a0).2.2.2.2.1) ((iCoordNew a0).2.2.2.2.2) (1 : Int))) = true) : runP true Try.prog tt S22 QF22 (fun _ _ => none) Try.f6 (argsMk P_lFnExactCoordNew (a0, ())) = some (g_lFnExactCoordNew (a0, ())) := by
  refine Eq.trans (b := (cond (q_leqCoord ((iCoordNew a0).1) ((iCoordNew a0).2.1) ((iCoordNew a0).2.2.1) ((iCoordNew a0).2.2.2.1) ((iCoordNew a0).2.2.2.2.1) ((iCoordNew a0).2.2.2.2.2) ((sCoordNew a0).1) ((sCoordNew a0).2.1) ((sCoordNew a0).2.2.1) ((sCoordNew a0).2.2.2.1) ((sCoordNew a0).2.2.2.2.1) ((sCoordNew a0).2.2.2.2.2)) (cond (!(leqCoord ((iCoordNew a0).1) ((iCoordNew a0).2.1) ((iCoordNew a0).2.2.1) ((iCoordNew a0).2.2.2.1) ((iCoordNew a0).2.2.2.2.1) ((iCoordNew a0).2.2.2.2.2) ((sCoordNew a0).1) ((sCoordNew a0).2.1) ((sCoordNew a0).2.2.1) ((sCoordNew a0).2.2.2.1) ((sCoordNew a0).2.2.2.2.1) ((sCoordNew a0).2.2.2.2.2))) (some (e_lFnExactCoordNew false)) (cond (q_lmarkCoord ((iCoordNew a0).1) ((iCoordNew a0).2.1) ((iCoordNew a0).2.2.1) ((iCoordNew a0).2.2.2.1) ((iCoordNew a0).2.2.2.2.1) ((iCoordNew a0).2.2.2.2.2) (1 : Int)) (cond (q_lheldCoord ((iCoordNew a0).1) ((iCoordNew a0).2.1) ((iCoordNew a0).2.2.1) ((iCoordNew a0).2.2.2.1) ((iCoordNew a0).2.2.2.2.1) ((iCoordNew a0).2.2.2.2.2) (1 : Int)) (cond (decide ((lheldCoord ((iCoordNew a0).1) ((iCoordNew a0).2.1) ((iCoordNew a0).2.2.1) ((iCoordNew a0).2.2.2.1) ((iCoordNew a0).2.2.2.2.1) ((iCoordNew a0).2.2.2.2.2) (1 : Int)) < (0 : Int))) (some (e_lFnExactCoordNew false)) (cond ((lheldCoord ((iCoordNew a0).1) ((iCoordNew a0).2.1) ((iCoordNew a0).2.2.1) ((iCoordNew a0).2.2.2.1) ((iCoordNew a0).2.2.2.2.1) ((iCoordNew a0).2.2.2.2.2) (1 : Int)) != (lmarkCoord ((iCoordNew a0).1) ((iCoordNew a0).2.1) ((iCoordNew a0).2.2.1) ((iCoordNew a0).2.2.2.1) ((iCoordNew a0).2.2.2.2.1) ((iCoordNew a0).2.2.2.2.2) (1 : Int))) (some (e_lFnExactCoordNew false)) (cond (q_leqCoord ((iCoordNew a0).1) ((iCoordNew a0).2.1) ((iCoordNew a0).2.2.1) ((iCoordNew a0).2.2.2.1) ((iCoordNew a0).2.2.2.2.1) ((iCoordNew a0).2.2.2.2.2) ((sCoordNew a0).1) ((sCoordNew a0).2.1) ((sCoordNew a0).2.2.1) ((sCoordNew a0).2.2.2.1) ((sCoordNew a0).2.2.2.2.1) ((sCoordNew a0).2.2.2.2.2)) (cond (!(leqCoord ((iCoordNew a0).1) ((iCoordNew a0).2.1) ((iCoordNew a0).2.2.1) ((iCoordNew a0).2.2.2.1) ((iCoordNew a0).2.2.2.2.1) ((iCoordNew a0).2.2.2.2.2) ((sCoordNew a0).1) ((sCoordNew a0).2.1) ((sCoordNew a0).2.2.1) ((sCoordNew a0).2.2.2.1) ((sCoordNew a0).2.2.2.2.1) ((sCoordNew a0).2.2.2.2.2))) (some (e_lFnExactCoordNew false)) (cond (q_lheldCoord ((iCoordNew a0).1) ((iCoordNew a0).2.1) ((iCoordNew a0).2.2.1) ((iCoordNew a0).2.2.2.1) ((iCoordNew a0).2.2.2.2.1) ((iCoordNew a0).2.2.2.2.2) (1 : Int)) (cond (decide ((lheldCoord ((iCoordNew a0).1) ((iCoordNew a0).2.1) ((iCoordNew a0).2.2.1) ((iCoordNew a0).2.2.2.1) ((iCoordNew a0).2.2.2.2.1) ((iCoordNew a0).2.2.2.2.2) (1 : Int)) < (0 : Int))) (some (e_lFnExactCoordNew false)) (cond ((lheldCoord ((iCoordNew a0).1) ((iCoordNew a0).2.1) ((iCoordNew a0).2.2.1) ((iCoordNew a0).2.2.2.1) ((iCoordNew a0).2.2.2.2.1) ((iCoordNew a0).2.2.2.2.2) (1 : Int)) != (lmarkCoord ((iCoordNew a0).1) ((iCoordNew a0).2.1) ((iCoordNew a0).2.2.1) ((iCoordNew a0).2.2.2.1) ((iCoordNew a0).2.2.2.2.1) ((iCoordNew a0).2.2.2.2.2) (1 : Int))) (some (e_lFnExactCoordNew false)) (some (e_lFnExactCoordNew true)))) none)) none))) none) none)) none)) (by kernel_rfl) ?_
  exact (cndT (by first | rfl | decide | exact hp | (simp only [Bool.and_eq_true] at hp; simp only [hp]; done) | (simp [*]; done) | (simp [okL] at hp; simp [okL, MAXB]; omega) | (simp_all; done) | (simp at *; omega)) (fun _h => (cnd (F := fun r => some (e_lFnExactCoordNew r)) (fun _h => rfl) (fun _h => (cndT (by first | rfl | decide | exact hp | (simp only [Bool.and_eq_true] at hp; simp only [hp]; done) | (simp [*]; done) | (simp [okL] at hp; simp [okL, MAXB]; omega) | (simp_all; done) | (simp at *; omega)) (fun _h => (cndT (by first | rfl | decide | exact hp | (simp only [Bool.and_eq_true] at hp; simp only [hp]; done) | (simp [*]; done) | (simp [okL] at hp; simp [okL, MAXB]; omega) | (simp_all; done) | (simp at *; omega)) (fun _h => (cnd (F := fun r => some (e_lFnExactCoordNew r)) (fun _h => rfl) (fun _h => (cnd (F := fun r => some (e_lFnExactCoordNew r)) (fun _h => rfl) (fun _h => (cndT (by first | rfl | decide | exact hp | (simp only [Bool.and_eq_true] at hp; simp only [hp]; done) | (simp [*]; done) | (simp [okL] at hp; simp [okL, MAXB]; omega) | (simp_all; done) | (simp at *; omega)) (fun _h => (cnd (F := fun r => some (e_lFnExactCoordNew r)) (fun _h => rfl) (fun _h => (cndT (by first | rfl | decide | exact hp | (simp only [Bool.and_eq_true] at hp; simp only [hp]; done) | (simp [*]; done) | (simp [okL] at hp; simp [okL, MAXB]; omega) | (simp_all; done) | (simp at *; omega)) (fun _h => (cnd (F := fun r => some (e_lFnExactCoordNew r)) (fun _h => rfl) (fun _h => (cnd (F := fun r => some (e_lFnExactCoordNew r)) (fun _h => rfl) (fun _h => rfl))))))))))))))))))))))
theorem run_lFnExactCoordNew : ∀ d, pre_lFnExactCoordNew d = true → runP true Try.prog tt S22 QF22 (fun _ _ => none) Try.f6 (argsMk P_lFnExactCoordNew d) = some (g_lFnExactCoordNew d) := fun d hp => runA_lFnExactCoordNew d.1 hp
theorem c_lFnExactCoordNew : PContract Try.prog 6 (sumOf P_lFnExactCoordNew pre_lFnExactCoordNew g_lFnExactCoordNew) := PContract.of_data true G22 (fn := Try.f6) (by kernel_rfl) (L := fun _ _ => none) (by rw [show loopsIn 0 (bodyOf Try.f6) = [] by kernel_rfl]; simp) P_lFnExactCoordNew pre_lFnExactCoordNew g_lFnExactCoordNew run_lFnExactCoordNew
def S23 : Tab := Tab.add S22 6 (lift (sumOf P_lFnExactCoordNew pre_lFnExactCoordNew g_lFnExactCoordNew))
def QF23 : FuncId → Bool := qadd QF22 6
theorem G23 : Good Try.prog tt S23 QF23 := G22.addQ c_lFnExactCoordNew ⟨Try.f6, by kernel_rfl, by kernel_rfl, by kernel_rfl⟩ (fun _ => rfl)
theorem coordNew_same (n : Int) : sCoordNew n = iCoordNew n := by simp only [sCoordNew, iCoordNew]; rfl
theorem coordNew_empty (n : Int) : iCoordNew n = ((iCoordNew n).1, (iCoordNew n).2.1, (0 : Int), [], [], (0 : Int)) := by
  simp only [iCoordNew]
  cases (!(iinRange n (1 : Int) (8 : Int))) <;> rfl
theorem pre_of_lFnExactCoordNew (n : Int) (_ : bigT (.int .i64) n = true) : pre_lFnExactCoordNew (n, ()) = true := by
  show q_lFnExactCoordNew n = true
  simp only [q_lFnExactCoordNew, coordNew_same]
  rw [coordNew_empty]
  rfl
theorem exact_lFnExactCoordNew (n : Int) (_ : pre_lFnExactCoordNew (n, ()) = true) : lFnExactCoordNew n = true := by
  simp only [lFnExactCoordNew, coordNew_same]
  rw [coordNew_empty]
  have e : leqCoord (iCoordNew n).1 (iCoordNew n).2.1 0 [] [] 0 (iCoordNew n).1 (iCoordNew n).2.1 0 [] [] 0 = true := by simp [leqCoord, leqJobS, leqChoiceS, allF]
  have h : lheldCoord (iCoordNew n).1 (iCoordNew n).2.1 0 [] [] 0 1 = 1 := rfl
  have m : lmarkCoord (iCoordNew n).1 (iCoordNew n).2.1 0 [] [] 0 1 = 1 := rfl
  simp [e, h, m]

end Go.Proofs.Ytoddiofedjnapaa.Eng
