/- What the functions that FnExactOutcome reaches compute, and that it answers true. -/
import Derived.Test.YtccelbeahdcooaaT
import Derived.Test.YtccelbeahdcooaaRows
import Derived.Test.YtccelbeahdcooaaE45
import Derived.Shelf.Spec.SlicesInsertGrow
namespace Go.Proofs.Ytccelbeahdcooaa.Eng
open Go Go.RowKit
set_option linter.unusedSimpArgs false
set_option linter.unusedVariables false
set_option maxRecDepth 10000
noncomputable abbrev bE : ByteArray := ⟨#[]⟩
noncomputable abbrev LIBBe := List (Int × ByteArray × ByteArray)
noncomputable abbrev t_spiptt : Ty := .sl (.pair (.int .i64) (.pair .str .str))
noncomputable abbrev t_pipispiptt : Ty := .pair (.int .i64) (.pair (.int .i64) (.sl (.pair (.int .i64) (.pair .str .str))))
noncomputable def S0 : Tab := fun _ => none
noncomputable def QF0 : FuncId → Bool := fun _ => false
theorem G0 : Good Try.prog tt S0 QF0 := Good.start tt_ok (by kernel_rfl)
/-! Plain laws: order of bytes, keys, ops. -/
theorem bytesLess_irrefl : ∀ a : List UInt8, Op.bytesLess a a = false := by
  intro a
  induction a with
  | nil => rfl
  | cons x a ih => simp only [Op.bytesLess, ih, Bool.and_false, Bool.or_false, decide_eq_false_iff_not]; exact UInt8.lt_irrefl x
theorem bytesLess_ge : ∀ a b : List UInt8, (!(Op.bytesLess a b)) = (Op.bytesLess b a || b == a) := by
  intro a
  induction a with
  | nil => intro b; cases b <;> simp [Op.bytesLess]
  | cons x a ih =>
    intro b
    cases b with
    | nil => simp [Op.bytesLess]
    | cons y b =>
      simp only [Op.bytesLess]
      by_cases h1 : x < y
      · have h2 : ¬ y < x := fun h => UInt8.lt_irrefl _ (UInt8.lt_trans h1 h)
        have h3 : (y == x) = false := by rw [beq_eq_false_iff_ne]; intro h; subst h; exact h2 h1
        have h4 : (y :: b == x :: a) = false := by rw [List.cons_beq_cons, h3, Bool.false_and]
        simp [h1, h2, h3, h4]
      · by_cases h5 : x = y
        · subst h5
          have h6 : (x :: b == x :: a) = (b == a) := by rw [List.cons_beq_cons]; simp
          have := ih b
          simp only [h1, decide_false, Bool.false_or, beq_self_eq_true, Bool.true_and, h6, this]
        · have h7 : y < x := by
            rcases Nat.lt_trichotomy x.toNat y.toNat with h | h | h
            · exact absurd (UInt8.lt_iff_toNat_lt.2 h) h1
            · exact absurd (UInt8.toNat_inj.1 h) h5
            · exact UInt8.lt_iff_toNat_lt.2 h
          have h8 : (x == y) = false := by rw [beq_eq_false_iff_ne]; exact h5
          simp [h1, h7, h8]
theorem allF_congr {p q : Nat → Bool} : ∀ k i, (∀ j, i ≤ j → j < i + k → p j = q j) → allF p k i = allF q k i := by
  intro k
  induction k with
  | zero => intro i h; rfl
  | succ k ih => intro i h; simp only [allF]; rw [h i (Nat.le_refl _) (by omega), ih (i + 1) (fun j h1 h2 => h j (by omega) (by omega))]
theorem allF_same {p : Nat → Bool} (k i : Nat) (h : ∀ j, i ≤ j → j < i + k → p j = true) : allF p k i = true := (allF_true k i).2 h
theorem szN_all {f : Nat → Int → Int} {Q : Nat → Prop} {M : Int} : ∀ (k i : Nat) (b : Int), (∀ j b, i ≤ j → j < i + k → 0 ≤ b → b ≤ M → 0 ≤ f j b → Q j ∧ f j b ≤ b) → 0 ≤ b → b ≤ M → isInl (szN f k i b) = true →
    (∀ j, i ≤ j → j < i + k → Q j) ∧ 0 ≤ getInl (-1) (szN f k i b) ∧ getInl (-1) (szN f k i b) ≤ b := by
  intro k
  induction k with
  | zero => intro i b hf h1 h2 h3; exact ⟨fun j hj hk => by omega, h1, Int.le_refl _⟩
  | succ k ih =>
    intro i b hf h1 h2 h3
    have e : szN f (k + 1) i b = cond (decide (f i b < 0)) (.inr ()) (szN f k (i + 1) (f i b)) := by
      simp only [szN, loopN]
      cases decide (f i b < 0) <;> rfl
    rw [e] at h3 ⊢
    cases hd : decide (f i b < 0) with
    | true => rw [hd] at h3; cases h3
    | false =>
      rw [hd] at h3
      simp only [cond_false] at h3 ⊢
      have h0 : 0 ≤ f i b := by have := of_decide_eq_false hd; omega
      obtain ⟨q1, q2⟩ := hf i b (Nat.le_refl _) (by omega) h1 h2 h0
      obtain ⟨r1, r2, r3⟩ := ih (i + 1) (f i b) (fun j b hj hk => hf j b (by omega) (by omega)) h0 (by omega) h3
      refine ⟨fun j hj hk => ?_, r2, by omega⟩
      by_cases ej : j = i
      · exact ej ▸ q1
      · exact r1 j (by omega) (by omega)
noncomputable abbrev OpT : Type := Int × ByteArray × ByteArray
noncomputable def dOp : Int × ByteArray × ByteArray := ((0 : Int), (bE, bE))
noncomputable def okOp (o : Int × ByteArray × ByteArray) : Bool := okS o.2.1 && okS o.2.2
noncomputable def okOps (l : LIBBe) : Bool := okL l && l.all okOp
theorem okOps_at {l : LIBBe} (h : okOps l = true) (i : Nat) (hi : i < l.length) : okS (l.getD i dOp).2.1 = true ∧ okS (l.getD i dOp).2.2 = true := by
  simp only [okOps, Bool.and_eq_true, List.all_eq_true] at h
  have := h.2 (l.getD i dOp) (by simp [List.getD_eq_getElem?_getD, hi])
  simpa [okOp] using this
theorem okOps_len {l : LIBBe} (h : okOps l = true) : l.length ≤ 1048576 := by
  simp only [okOps, Bool.and_eq_true] at h
  exact okL_le h.1
noncomputable def bigS (s : ByteArray) : Bool := decide (s.size ≤ 9223372036854775807)
noncomputable def bigOps (l : LIBBe) : Bool := decide (l.length ≤ 9223372036854775807) && l.all (fun o => bigS o.2.1 && bigS o.2.2)
theorem bigOps_at {l : LIBBe} (h : bigOps l = true) (i : Nat) (hi : i < l.length) : bigS (l.getD i dOp).2.1 = true ∧ bigS (l.getD i dOp).2.2 = true := by
  simp only [bigOps, Bool.and_eq_true, List.all_eq_true] at h
  exact h.2 (l.getD i dOp) (by simp [List.getD_eq_getElem?_getD, hi])
theorem okOps_of {l : LIBBe} (h1 : l.length ≤ 1048576) (h2 : ∀ i, i < l.length → okS (l.getD i dOp).2.1 = true ∧ okS (l.getD i dOp).2.2 = true) : okOps l = true := by
  simp only [okOps, okL, Bool.and_eq_true, decide_eq_true_eq, List.all_eq_true]
  refine ⟨h1, fun o ho => ?_⟩
  obtain ⟨i, hi, rfl⟩ := List.getElem_of_mem ho
  have := h2 i hi
  simp only [List.getD_eq_getElem?_getD, List.getElem?_eq_getElem hi, Option.getD_some] at this
  simp [okOp, this.1, this.2]
theorem ba_beq (a b : ByteArray) : (a.toList == b.toList) = decide (a = b) := by
  rw [ByteArray.toList_eq, ByteArray.toList_eq]
  by_cases h : a = b
  · subst h; simp
  · rw [decide_eq_false h, beq_eq_false_iff_ne]
    intro e
    exact h (by cases a; cases b; simp at e; rw [e])
theorem bigOps_len {l : LIBBe} (h : bigOps l = true) : l.length ≤ 9223372036854775807 := by
  simp only [bigOps, Bool.and_eq_true, decide_eq_true_eq] at h; exact h.1
theorem okOps_okL {l : LIBBe} (h : okOps l = true) : okL l = true := by
  simp only [okOps, Bool.and_eq_true] at h; exact h.1
theorem bigOps_of {l : LIBBe} (h : bigT t_spiptt l = true) : bigOps l = true := by
  have h : (decide (l.length ≤ maxLen) && l.all fun o => (Lit.int .i64 o.1).wf && (decide (o.2.1.size ≤ maxLen) && decide (o.2.2.size ≤ maxLen))) = true := h
  have hm : maxLen = 9223372036854775807 := by decide
  rw [hm] at h
  simp only [Bool.and_eq_true, decide_eq_true_eq, List.all_eq_true] at h
  simp only [bigOps, bigS, Bool.and_eq_true, decide_eq_true_eq, List.all_eq_true]
  exact ⟨h.1, fun o ho => (h.2 o ho).2⟩
theorem bigRec_ops {k t : Int} {l : LIBBe} (h : bigT t_pipispiptt (k, (t, l)) = true) : bigOps l = true := by
  have hb : ((Lit.int .i64 k).wf && ((Lit.int .i64 t).wf && bigT t_spiptt l)) = true := h
  rw [Bool.and_eq_true, Bool.and_eq_true] at hb
  exact bigOps_of hb.2.2
/-- The high groups of a number, and what is left. -/
noncomputable def hiF (g : Int → Int) : Nat → Int → List Int × Int
  | 0, x => ([], x)
  | k + 1, x => cond (decide (x > 127)) (g x :: (hiF g k (Int.fdiv x (2 ^ 7))).1, (hiF g k (Int.fdiv x (2 ^ 7))).2) ([], x)
theorem fdiv128 (x : Int) : Int.fdiv x (2 ^ 7) = x / 128 := by
  rw [show (2 : Int) ^ 7 = 128 from rfl, Int.fdiv_eq_ediv_of_nonneg _ (by decide)]
theorem hiF_small (g : Int → Int) (k : Nat) : ∀ x : Int, 0 ≤ x → x < 128 ^ (k + 1) → 0 ≤ (hiF g k x).2 ∧ (hiF g k x).2 ≤ 127 := by
  induction k with
  | zero => intro x h0 h1; simp only [hiF]; exact ⟨h0, by rw [show (128 : Int) ^ (0 + 1) = 128 from rfl] at h1; omega⟩
  | succ k ih =>
    intro x h0 h1
    simp only [hiF]
    by_cases hx : x > 127
    · simp only [decide_eq_true hx, cond_true, fdiv128]
      rw [Int.pow_succ] at h1
      exact ih (x / 128) (by omega) (by omega)
    · simp only [decide_eq_false hx, cond_false]
      exact ⟨h0, by omega⟩
theorem hiF_len (g : Int → Int) (k : Nat) : ∀ x : Int, (hiF g k x).1.length ≤ k := by
  induction k with
  | zero => intro x; simp [hiF]
  | succ k ih =>
    intro x
    simp only [hiF]
    cases decide (x > 127) with
    | true => simp; exact ih _
    | false => simp
noncomputable def gNum (x : Int) : Int := IntKind.wrap .u8 (ior .i64 (iand .i64 x (127 : Int)) (128 : Int))
noncomputable def gNum' (x : Int) : Int := IntKind.wrap .u8 (ior .i64 (128 : Int) (iand .i64 x (127 : Int)))
theorem gNum_same : gNum' = gNum := by
  funext x
  simp only [gNum, gNum', ior]
  rw [BitVec.or_comm]
theorem nX_is : ∃ f : Int → List Int × Int, ∀ x, f x = hiF gNum 4 x := ⟨_, fun _ => rfl⟩
/-- The same, not to be unfolded. -/
noncomputable def nX : Int → List Int × Int := Classical.choose nX_is
theorem nX_eq (x : Int) : nX x = hiF gNum 4 x := Classical.choose_spec nX_is x
theorem nX_eq' (x : Int) : nX x = hiF gNum' 4 x := by rw [gNum_same]; exact nX_eq x
theorem nX_len (x : Int) : (nX x).1.length ≤ 4 := by rw [nX_eq]; exact hiF_len gNum 4 x
/-- The bytes of a number. -/
noncomputable def numB (x : Int) : List Int := (nX x).1 ++ [IntKind.wrap .u8 (nX x).2]
theorem numB_len (x : Int) : (numB x).length ≤ 5 := by
  have := nX_len x
  simp [numB]; omega
noncomputable def clampN (n : Int) : Int := if n > 1000000000 then 1000000000 else if n < 0 then 0 else n
noncomputable def textB (s : ByteArray) : List Int := numB (s.size : Int) ++ strInts s
noncomputable def opB (o : Int × ByteArray × ByteArray) : List Int := numB (clampN o.1) ++ (textB o.2.1 ++ textB o.2.2)
theorem clampN_of {n : Int} (h0 : 0 ≤ n) (h1 : n ≤ 1000000000) : clampN n = n := by simp only [clampN]; split <;> (try split) <;> omega
theorem strInts_len (s : ByteArray) : (strInts s).length = s.size := by rw [strInts, List.length_map, Array.length_toList]; rfl
theorem textB_len (s : ByteArray) : (textB s).length ≤ 5 + s.size := by
  have := numB_len (s.size : Int)
  simp [textB, strInts_len]; omega

noncomputable def clampI (x : Int) : Int := if (if (1000000000 : Int) < x then (1000000000 : Int) else x) > (0 : Int) then (if (1000000000 : Int) < x then (1000000000 : Int) else x) else (0 : Int)
theorem clampI_eq (x : Int) : clampI x = clampN x := by
  simp only [clampI, clampN]
  split <;> split <;> (try split) <;> omega
theorem clampN_range (x : Int) : 0 ≤ clampN x ∧ clampN x ≤ 1000000000 := by
  simp only [clampN]
  split <;> (try split) <;> omega
theorem clampI_range (x : Int) : 0 ≤ clampI x ∧ clampI x ≤ 1000000000 := by rw [clampI_eq]; exact clampN_range x

noncomputable def digB (x : Int) : ByteArray := (⟨([IntKind.wrap .u8 (IntKind.wrap .i64 ((48 : Int) + (Int.tmod x (10 : Int))))].map fun n => UInt8.ofNat n.toNat).toArray⟩ : ByteArray)
theorem digB_size (x : Int) : (digB x).size = 1 := rfl
/-- A number's digits. -/
noncomputable def txtN : Nat → Int → ByteArray → ByteArray
  | 0, _, s => s
  | k + 1, x, s => cond (decide (x > 0)) (txtN k (IntKind.wrap .i64 (Int.tdiv x (10 : Int))) (digB x ++ s)) s
theorem txtN_len : ∀ (k : Nat) (x : Int) (s : ByteArray), (txtN k x s).size ≤ k + s.size := by
  intro k
  induction k with
  | zero => intro x s; simp [txtN]
  | succ k ih =>
    intro x s
    simp only [txtN]
    cases decide (x > 0) with
    | true =>
      have := ih (IntKind.wrap .i64 (Int.tdiv x (10 : Int))) (digB x ++ s)
      rw [ByteArray.size_append, digB_size] at this
      simp only [cond_true]; omega
    | false => simp only [cond_false]; omega
theorem foldN_app {α : Type} (f : α → List Int) (d : α) (l : List α) (g : Nat → List Int → List Int) (hg : ∀ i h, i < l.length → g i h = h ++ f (l.getD i d)) : ∀ k i h, i + k = l.length → foldN g k i h = h ++ ((l.drop i).map f).flatten := by
  intro k
  induction k with
  | zero =>
    intro i h hi
    have : l.drop i = [] := List.drop_eq_nil_of_le (by omega)
    simp [foldN, this]
  | succ k ih =>
    intro i h hi
    have hlt : i < l.length := by omega
    simp only [foldN]
    rw [ih (i + 1) (g i h) (by omega), hg i h hlt, List.append_assoc, show l.drop i = l[i] :: l.drop (i + 1) from List.drop_eq_getElem_cons hlt, List.map_cons, List.flatten_cons, show l.getD i d = l[i] from by simp [List.getD_eq_getElem?_getD, hlt]]
theorem opB_len (o : Int × ByteArray × ByteArray) : (opB o).length ≤ 15 + o.2.1.size + o.2.2.size := by
  have h1 := numB_len (clampN o.1)
  have h2 := textB_len o.2.1
  have h3 := textB_len o.2.2
  simp only [opB, List.length_append]; omega
theorem flat_len {M : Nat} : ∀ l : LIBBe, (∀ o ∈ l, (opB o).length ≤ M) → (l.map opB).flatten.length ≤ M * l.length := by
  intro l
  induction l with
  | nil => intro _; simp
  | cons o l ih =>
    intro h
    have h1 := h o (by simp)
    have h2 := ih fun x hx => h x (by simp [hx])
    simp only [List.map_cons, List.flatten_cons, List.length_append, List.length_cons]
    rw [Nat.mul_add]; omega
theorem okOps_mem {l : LIBBe} (h : okOps l = true) : ∀ o ∈ l, o.2.1.size ≤ 1048576 ∧ o.2.2.size ≤ 1048576 := by
  intro o ho
  simp only [okOps, Bool.and_eq_true, List.all_eq_true] at h
  have := h.2 o ho
  simpa [okOp, okS] using this

/-! 107 loop.example/g00244/laws.szOp -/
noncomputable abbrev P_lszOp : List PSh := [.agg [(.int .i64), .str, .str], .t (.int .i64)]
noncomputable def lszOp (a0 : Int) (a1 : ByteArray) (a2 : ByteArray) (a3 : Int) : Int := (cond (decide ((IntKind.wrap .i64 (a3 - ((a1.size : Nat) : Int))) < (0 : Int))) (-1 : Int) (cond (decide ((IntKind.wrap .i64 ((IntKind.wrap .i64 (a3 - ((a1.size : Nat) : Int))) - ((a2.size : Nat) : Int))) < (0 : Int))) (-1 : Int) (IntKind.wrap .i64 ((IntKind.wrap .i64 (a3 - ((a1.size : Nat) : Int))) - ((a2.size : Nat) : Int)))))
noncomputable abbrev e_lszOp (r : Int) : AV × List AObj := ((.t true (.int .i64) r), [])
noncomputable abbrev F_lszOp (r : Int) := some (e_lszOp r)
noncomputable abbrev g_lszOp : pshsDen P_lszOp → AV × List AObj := fun d => e_lszOp (lszOp d.1.1 d.1.2.1 d.1.2.2.1 d.2.1)
noncomputable abbrev pre_lszOp : pshsDen P_lszOp → Bool := fun d => true
theorem runA_lszOp (a0 : Int) (a1 : ByteArray) (a2 : ByteArray) (a3 : Int) : runP true Try.prog tt S0 QF0 (fun _ _ => none) Try.f107 (argsMk P_lszOp ((a0, (a1, (a2, ()))), (a3, ()))) = some (g_lszOp ((a0, (a1, (a2, ()))), (a3, ()))) := by
  refine Eq.trans (b := (cond (decide ((IntKind.wrap .i64 (a3 - ((a1.size : Nat) : Int))) < (0 : Int))) (some (e_lszOp (-1 : Int))) (cond (decide ((IntKind.wrap .i64 ((IntKind.wrap .i64 (a3 - ((a1.size : Nat) : Int))) - ((a2.size : Nat) : Int))) < (0 : Int))) (some (e_lszOp (-1 : Int))) (some (e_lszOp (IntKind.wrap .i64 ((IntKind.wrap .i64 (a3 - ((a1.size : Nat) : Int))) - ((a2.size : Nat) : Int)))))))) (by kernel_rfl) ?_
  exact (cnd (F := F_lszOp) (fun _h => rfl) (fun _h => (cnd (F := F_lszOp) (fun _h => rfl) (fun _h => rfl))))
theorem run_lszOp : ∀ d, pre_lszOp d = true → runP true Try.prog tt S0 QF0 (fun _ _ => none) Try.f107 (argsMk P_lszOp d) = some (g_lszOp d) := fun d hp => runA_lszOp d.1.1 d.1.2.1 d.1.2.2.1 d.2.1
theorem c_lszOp : PContract Try.prog 107 (sumOf P_lszOp pre_lszOp g_lszOp) := PContract.of_data true G0 (fn := Try.f107) (by kernel_rfl) (L := fun _ _ => none) (by rw [show loopsIn 0 (bodyOf Try.f107) = [] by kernel_rfl]; simp) P_lszOp pre_lszOp g_lszOp run_lszOp
noncomputable def S1 : Tab := Tab.add S0 107 (lift (sumOf P_lszOp pre_lszOp g_lszOp))
noncomputable def QF1 : FuncId → Bool := qadd QF0 107
theorem G1 : Good Try.prog tt S1 QF1 := G0.addQ c_lszOp ⟨Try.f107, by kernel_rfl, by kernel_rfl, by kernel_rfl⟩ (fun _ => rfl)

/-! 62 loop.example/g00244/laws.szOpS -/
noncomputable abbrev jS21 : List Sh := .junk :: .junk :: .junk :: .junk :: .junk :: .junk :: .junk :: .junk :: .junk :: .junk :: .junk :: .junk :: .junk :: .junk :: .junk :: .junk :: .junk :: .junk :: .junk :: .junk :: .junk :: []
noncomputable abbrev jS22 : List Sh := .junk :: jS21
noncomputable abbrev jS25 : List Sh := .junk :: .junk :: .junk :: jS22
noncomputable abbrev u23 := ((), (), (), (), (), (), (), (), (), (), (), (), (), (), (), (), (), (), (), (), (), (), ())
noncomputable abbrev u22 := ((), (), (), (), (), (), (), (), (), (), (), (), (), (), (), (), (), (), (), (), (), ())
noncomputable abbrev u26 := ((), (), (), u23)
noncomputable def f_lszOpS_0 (x0 : LIBBe) (i : Nat) (b : Int) : Int := (lszOp ((x0.getD i ((0 : Int), (bE, bE))).1) (((x0.getD i ((0 : Int), (bE, bE))).2).1) (((x0.getD i ((0 : Int), (bE, bE))).2).2) b)
noncomputable abbrev P_lszOpS : List PSh := [.t t_spiptt, .t (.int .i64)]
noncomputable abbrev S_lszOpS_0 : SS := ⟨(.t false t_spiptt :: .t true (.int .i64) :: .junk :: .junk :: .junk :: .t true (.int .i64) :: jS21), []⟩
noncomputable abbrev E_lszOpS_0_0 : SS := ⟨(.junk :: .junk :: .junk :: .junk :: .t true (.int .i64) :: jS22), []⟩
noncomputable abbrev E_lszOpS_0_1 : SS := ⟨(.junk :: .t true (.int .i64) :: jS25), []⟩
noncomputable def st_lszOpS_0 (x0 : LIBBe) (x1 : Int) (x5 : Int) : RT S_lszOpS_0.den := (.br (decide (x5 < ((x0.length : Nat) : Int))) (.br (decide (0 ≤ x5 ∧ x5 < ((x0.length : Nat) : Int))) (.br (decide ((lszOp ((x0.getD x5.toNat ((0 : Int), (bE, bE))).1) (((x0.getD x5.toNat ((0 : Int), (bE, bE))).2).1) (((x0.getD x5.toNat ((0 : Int), (bE, bE))).2).2) x1) < (0 : Int))) (.done .ret E_lszOpS_0_0 (((), (), (), (), (-1 : Int), u23), ())) (.next ((x0, (lszOp ((x0.getD x5.toNat ((0 : Int), (bE, bE))).1) (((x0.getD x5.toNat ((0 : Int), (bE, bE))).2).1) (((x0.getD x5.toNat ((0 : Int), (bE, bE))).2).2) x1), (), (), (), IntKind.wrap .i64 (x5 + (1 : Int)), u22), ()))) .fail) (.done (.exit 0) E_lszOpS_0_1 (((), x1, u26), ())))
noncomputable def T_lszOpS_0 (x0 : LIBBe) (x1 : Int) (x5 : Int) : CT := (.br (decide (0 ≤ x5) && okL x0) (.br (isInl (szN (f_lszOpS_0 x0) (x0.length - x5.toNat) x5.toNat x1)) (.done (.exit 0) E_lszOpS_0_1 (((), (getInl (-1) (szN (f_lszOpS_0 x0) (x0.length - x5.toNat) x5.toNat x1)), u26), ())) (.done .ret E_lszOpS_0_0 (((), (), (), (), (-1 : Int), u23), ()))) .fail)
noncomputable abbrev sp_lszOpS_0 : S_lszOpS_0.den → RT S_lszOpS_0.den := fun d => st_lszOpS_0 d.1.1 d.1.2.1 d.1.2.2.2.2.2.1
noncomputable abbrev pk_lszOpS_0 (x0 : LIBBe) (x1 : Int) (x5 : Int) : S_lszOpS_0.den := ((x0, x1, (), (), (), x5, u22), ())
noncomputable def body_lszOpS_0 : Code := ((loopsIn 0 (bodyOf Try.f62)).getD 0 (0, .skip)).2
theorem R_lszOpS_0 (x0 : LIBBe) (x1 : Int) (x5 : Int) : (T_lszOpS_0 x0 x1 x5).val (D := S_lszOpS_0.den) = .fail ∨ Runs sp_lszOpS_0 (pk_lszOpS_0 x0 x1 x5) (T_lszOpS_0 x0 x1 x5).val := by
  cases hc : (decide (0 ≤ x5) && okL x0) with
  | false => left; simp only [T_lszOpS_0, CT.val, hc, cond_false]
  | true =>
    right
    simp only [T_lszOpS_0, CT.val, hc, cond_true]
    simp only [Bool.and_eq_true, decide_eq_true_eq] at hc
    obtain ⟨i, rfl⟩ := Int.eq_ofNat_of_zero_le hc.1
    have hs := okL_le hc.2
    simp only [Int.toNat_natCast]
    have h := Runs.loopN (step := sp_lszOpS_0) (fun j b => pk_lszOpS_0 x0 b (j : Int)) (fun _ _ => True) (x0.length) (fun i b => cond (decide (f_lszOpS_0 x0 i b < 0)) (.inr ()) (.inl (f_lszOpS_0 x0 i b)))
      (fin := fun b => ((.done (.exit 0) E_lszOpS_0_1 (((), b, u26), ())) : CT).val) (bad := fun _ => ((.done .ret E_lszOpS_0_0 (((), (), (), (), (-1 : Int), u23), ())) : CT).val)
      (fun i b hi _ => ?_) (fun i b hi _ => ?_) (x0.length - i) i x1 rfl trivial
    · simp only [szN]
      revert h
      cases loopN (fun i b => cond (decide (f_lszOpS_0 x0 i b < 0)) (.inr ()) (.inl (f_lszOpS_0 x0 i b))) (x0.length - i) i x1 with
      | inl b => exact id
      | inr c => exact id
    · 
      have h0a : decide ((i : Int) < ((x0.length : Nat) : Int)) = true := decide_eq_true (by omega)
      have h0b : decide (0 ≤ (i : Int) ∧ (i : Int) < ((x0.length : Nat) : Int)) = true := decide_eq_true (by omega)
      have e : (sp_lszOpS_0 (pk_lszOpS_0 x0 b (i : Int))).val = cond (decide (f_lszOpS_0 x0 i b < 0)) ((.done .ret E_lszOpS_0_0 (((), (), (), (), (-1 : Int), u23), ())) : CT).val (.next (pk_lszOpS_0 x0 (f_lszOpS_0 x0 i b) ((i + 1 : Nat) : Int))) := by
        simp only [sp_lszOpS_0, st_lszOpS_0, RT.val, h0a, h0b, cond_true, wrapS i (by omega), Int.toNat_natCast]
        rfl
      cases hr : decide (f_lszOpS_0 x0 i b < 0) with
      | true => exact .inr ⟨(), _, _, _, rfl, by rw [e, hr]; rfl, rfl, by simp⟩
      | false => exact .inl ⟨_, rfl, trivial, by rw [e, hr]; rfl⟩
    · have h1 : decide ((i : Int) < ((x0.length : Nat) : Int)) = false := decide_eq_false (by omega)
      exact ⟨by simp only [sp_lszOpS_0, st_lszOpS_0, RT.val, h1, cond_false]; rfl, _, _, _, rfl, by simp⟩
theorem rd_lszOpS_0 : ∀ d, execC Try.prog tt S1 QF1 (fun _ _ => none) 0 body_lszOpS_0 (S_lszOpS_0.st d 0 []) (fun e s' => some (e, S_lszOpS_0.cutE (kepts [4] [(0, [1])]) e s')) = (sp_lszOpS_0 d).opt 0 [] := by
  intro d
  kernel_rfl
noncomputable abbrev say_lszOpS_0 : St → Option Tree := S_lszOpS_0.say 0 [] [] (fun d => T_lszOpS_0 d.1.1 d.1.2.1 d.1.2.2.2.2.2.1)
theorem lw_lszOpS_0 : LoopWp Try.prog say_lszOpS_0 body_lszOpS_0 := SS.wp G1 (fun _ _ => none) (by rw [show loopsIn 0 body_lszOpS_0 = [] by kernel_rfl]; simp) S_lszOpS_0 0 [] (kepts [4] [(0, [1])]) [] sp_lszOpS_0 rd_lszOpS_0 _ (fun d => R_lszOpS_0 d.1.1 d.1.2.1 d.1.2.2.2.2.2.1)
noncomputable def lszOpS (a0 : LIBBe) (a1 : Int) : Int := (cond (decide ((IntKind.wrap .i64 (a1 - ((a0.length : Nat) : Int))) < (0 : Int))) (-1 : Int) (cond (isInl (szN (f_lszOpS_0 a0) (a0.length - (0 : Int).toNat) (0 : Int).toNat (IntKind.wrap .i64 (a1 - ((a0.length : Nat) : Int))))) (getInl (-1) (szN (f_lszOpS_0 a0) (a0.length - (0 : Int).toNat) (0 : Int).toNat (IntKind.wrap .i64 (a1 - ((a0.length : Nat) : Int))))) (-1 : Int)))
noncomputable abbrev e_lszOpS (r : Int) : AV × List AObj := ((.t true (.int .i64) r), [])
noncomputable abbrev F_lszOpS (r : Int) := some (e_lszOpS r)
noncomputable abbrev g_lszOpS : pshsDen P_lszOpS → AV × List AObj := fun d => e_lszOpS (lszOpS d.1 d.2.1)
noncomputable def q_lszOpS (a0 : LIBBe) (a1 : Int) : Bool := decide (0 ≤ a1 ∧ a1 ≤ 1048576 ∧ a0.length ≤ 9223372036854775807)
noncomputable abbrev pre_lszOpS : pshsDen P_lszOpS → Bool := fun d => q_lszOpS d.1 d.2.1
theorem runA_lszOpS (a0 : LIBBe) (a1 : Int) (hp : q_lszOpS a0 a1 = true) : runP true Try.prog tt S1 QF1 (fun b => match b with | 0 => say_lszOpS_0 | _ => fun _ => none) Try.f62 (argsMk P_lszOpS (a0, (a1, ()))) = some (g_lszOpS (a0, (a1, ()))) := by
  unfold q_lszOpS at hp
  refine Eq.trans (b := (cond (decide ((IntKind.wrap .i64 (a1 - ((a0.length : Nat) : Int))) < (0 : Int))) (some (e_lszOpS (-1 : Int))) (cond (decide (0 ≤ (0 : Int)) && okL a0) (cond (isInl (szN (f_lszOpS_0 a0) (a0.length - (0 : Int).toNat) (0 : Int).toNat (IntKind.wrap .i64 (a1 - ((a0.length : Nat) : Int))))) (some (e_lszOpS (getInl (-1) (szN (f_lszOpS_0 a0) (a0.length - (0 : Int).toNat) (0 : Int).toNat (IntKind.wrap .i64 (a1 - ((a0.length : Nat) : Int))))))) (some (e_lszOpS (-1 : Int)))) none))) (by kernel_rfl) ?_
  exact (cnd (F := F_lszOpS) (fun _h => rfl) (fun _h => (cndT (by simp only [decide_eq_true_eq, decide_eq_false_iff_not] at hp _h; have hw := wrap64 (n := a1 - ((a0.length : Nat) : Int)) (by omega) (by omega); rw [hw] at _h; simp [okL]; omega) (fun _h => (cnd (F := F_lszOpS) (fun _h => rfl) (fun _h => rfl))))))
theorem run_lszOpS : ∀ d, pre_lszOpS d = true → runP true Try.prog tt S1 QF1 (fun b => match b with | 0 => say_lszOpS_0 | _ => fun _ => none) Try.f62 (argsMk P_lszOpS d) = some (g_lszOpS d) := fun d hp => runA_lszOpS d.1 d.2.1 hp
theorem c_lszOpS : PContract Try.prog 62 (sumOf P_lszOpS pre_lszOpS g_lszOpS) := PContract.of_data true G1 (fn := Try.f62) (by kernel_rfl) (L := fun b => match b with | 0 => say_lszOpS_0 | _ => fun _ => none) (by rw [show loopsIn 0 (bodyOf Try.f62) = [(0, body_lszOpS_0)] by kernel_rfl]; intro p hp; simp only [List.mem_singleton] at hp; subst hp; exact lw_lszOpS_0) P_lszOpS pre_lszOpS g_lszOpS run_lszOpS
noncomputable def S2 : Tab := Tab.add S1 62 (lift (sumOf P_lszOpS pre_lszOpS g_lszOpS))
noncomputable def QF2 : FuncId → Bool := qadd QF1 62
theorem G2 : Good Try.prog tt S2 QF2 := G1.addQ c_lszOpS ⟨Try.f62, by kernel_rfl, by kernel_rfl, by kernel_rfl⟩ (fun _ => rfl)

/-! 15 loop.example/g00244/laws.szRec -/
noncomputable abbrev P_lszRec : List PSh := [.agg [(.int .i64), (.int .i64), t_spiptt], .t (.int .i64)]
noncomputable def lszRec (a0 : Int) (a1 : Int) (a2 : LIBBe) (a3 : Int) : Int := (cond (decide ((lszOpS a2 a3) < (0 : Int))) (-1 : Int) (lszOpS a2 a3))
noncomputable abbrev e_lszRec (r : Int) : AV × List AObj := ((.t true (.int .i64) r), [])
noncomputable abbrev F_lszRec (r : Int) := some (e_lszRec r)
noncomputable abbrev g_lszRec : pshsDen P_lszRec → AV × List AObj := fun d => e_lszRec (lszRec d.1.1 d.1.2.1 d.1.2.2.1 d.2.1)
noncomputable def q_lszRec (a0 : Int) (a1 : Int) (a2 : LIBBe) (a3 : Int) : Bool := decide (0 ≤ a3 ∧ a3 ≤ 1048576 ∧ a2.length ≤ 9223372036854775807)
noncomputable abbrev pre_lszRec : pshsDen P_lszRec → Bool := fun d => q_lszRec d.1.1 d.1.2.1 d.1.2.2.1 d.2.1
theorem runA_lszRec (a0 : Int) (a1 : Int) (a2 : LIBBe) (a3 : Int) (hp : q_lszRec a0 a1 a2 a3 = true) : runP true Try.prog tt S2 QF2 (fun _ _ => none) Try.f15 (argsMk P_lszRec ((a0, (a1, (a2, ()))), (a3, ()))) = some (g_lszRec ((a0, (a1, (a2, ()))), (a3, ()))) := by
  unfold q_lszRec at hp
  refine Eq.trans (b := (cond (q_lszOpS a2 a3) (cond (decide ((lszOpS a2 a3) < (0 : Int))) (some (e_lszRec (-1 : Int))) (some (e_lszRec (lszOpS a2 a3)))) none)) (by kernel_rfl) ?_
  exact (cndT (by first | rfl | decide | exact hp | (simp only [Bool.and_eq_true] at hp; simp only [hp]; done) | (simp [*]; done) | (simp [okL] at hp; simp [okL, MAXB]; omega) | (simp_all; done) | (simp at *; omega)) (fun _h => (cnd (F := F_lszRec) (fun _h => rfl) (fun _h => rfl))))
theorem run_lszRec : ∀ d, pre_lszRec d = true → runP true Try.prog tt S2 QF2 (fun _ _ => none) Try.f15 (argsMk P_lszRec d) = some (g_lszRec d) := fun d hp => runA_lszRec d.1.1 d.1.2.1 d.1.2.2.1 d.2.1 hp
theorem c_lszRec : PContract Try.prog 15 (sumOf P_lszRec pre_lszRec g_lszRec) := PContract.of_data true G2 (fn := Try.f15) (by kernel_rfl) (L := fun _ _ => none) (by rw [show loopsIn 0 (bodyOf Try.f15) = [] by kernel_rfl]; simp) P_lszRec pre_lszRec g_lszRec run_lszRec
noncomputable def S3 : Tab := Tab.add S2 15 (lift (sumOf P_lszRec pre_lszRec g_lszRec))
noncomputable def QF3 : FuncId → Bool := qadd QF2 15
theorem G3 : Good Try.prog tt S3 QF3 := G2.addQ c_lszRec ⟨Try.f15, by kernel_rfl, by kernel_rfl, by kernel_rfl⟩ (fun _ => rfl)

/-! 43 loop.example/g00244/laws.szRecS -/
noncomputable abbrev t_spipispiptt : Ty := .sl (.pair (.int .i64) (.pair (.int .i64) (.sl (.pair (.int .i64) (.pair .str .str)))))
noncomputable abbrev LIILIBBee := List (Int × Int × List (Int × ByteArray × ByteArray))
noncomputable abbrev P_lszRecS : List PSh := [.t t_spipispiptt, .t (.int .i64)]
noncomputable abbrev S_lszRecS_0 : SS := ⟨(.t false t_spipispiptt :: .t true (.int .i64) :: .junk :: .junk :: .junk :: .t true (.int .i64) :: jS21), []⟩
noncomputable abbrev E_lszRecS_0_0 : SS := ⟨(.junk :: .junk :: .junk :: .junk :: .t true (.int .i64) :: jS22), []⟩
noncomputable abbrev E_lszRecS_0_1 : SS := ⟨(.junk :: .t true (.int .i64) :: jS25), []⟩
noncomputable def st_lszRecS_0 (x0 : LIILIBBee) (x1 : Int) (x5 : Int) : RT S_lszRecS_0.den := (.br (decide (x5 < ((x0.length : Nat) : Int))) (.br (decide (0 ≤ x5 ∧ x5 < ((x0.length : Nat) : Int))) (.br (q_lszRec ((x0.getD x5.toNat ((0 : Int), ((0 : Int), []))).1) (((x0.getD x5.toNat ((0 : Int), ((0 : Int), []))).2).1) (((x0.getD x5.toNat ((0 : Int), ((0 : Int), []))).2).2) x1) (.br (decide ((lszRec ((x0.getD x5.toNat ((0 : Int), ((0 : Int), []))).1) (((x0.getD x5.toNat ((0 : Int), ((0 : Int), []))).2).1) (((x0.getD x5.toNat ((0 : Int), ((0 : Int), []))).2).2) x1) < (0 : Int))) (.done .ret E_lszRecS_0_0 (((), (), (), (), (-1 : Int), u23), ())) (.next ((x0, (lszRec ((x0.getD x5.toNat ((0 : Int), ((0 : Int), []))).1) (((x0.getD x5.toNat ((0 : Int), ((0 : Int), []))).2).1) (((x0.getD x5.toNat ((0 : Int), ((0 : Int), []))).2).2) x1), (), (), (), IntKind.wrap .i64 (x5 + (1 : Int)), u22), ()))) .fail) .fail) (.done (.exit 0) E_lszRecS_0_1 (((), x1, u26), ())))
noncomputable abbrev V_lszRecS_0 := (LIILIBBee) × (Int) × (Int)
noncomputable abbrev A_lszRecS_0 := Nat × (Int) × (Int)
noncomputable def fl_lszRecS_0 : A_lszRecS_0 := (99, ((0 : Int) : Int), ((0 : Int) : Int))
noncomputable def ss_lszRecS_0 (x0 : LIILIBBee) (x1 : Int) (x5 : Int) : V_lszRecS_0 ⊕ A_lszRecS_0 := (cond (decide (x5 < ((x0.length : Nat) : Int))) (cond (decide (0 ≤ x5 ∧ x5 < ((x0.length : Nat) : Int))) (cond (q_lszRec ((x0.getD x5.toNat ((0 : Int), ((0 : Int), []))).1) (((x0.getD x5.toNat ((0 : Int), ((0 : Int), []))).2).1) (((x0.getD x5.toNat ((0 : Int), ((0 : Int), []))).2).2) x1) (cond (decide ((lszRec ((x0.getD x5.toNat ((0 : Int), ((0 : Int), []))).1) (((x0.getD x5.toNat ((0 : Int), ((0 : Int), []))).2).1) (((x0.getD x5.toNat ((0 : Int), ((0 : Int), []))).2).2) x1) < (0 : Int))) (.inr (0, (-1 : Int), ((0 : Int) : Int))) (.inl (x0, (lszRec ((x0.getD x5.toNat ((0 : Int), ((0 : Int), []))).1) (((x0.getD x5.toNat ((0 : Int), ((0 : Int), []))).2).1) (((x0.getD x5.toNat ((0 : Int), ((0 : Int), []))).2).2) x1), IntKind.wrap .i64 (x5 + (1 : Int))))) (.inr fl_lszRecS_0)) (.inr fl_lszRecS_0)) (.inr (1, ((0 : Int) : Int), x1)))
noncomputable def it_lszRecS_0 (x0 : LIILIBBee) (x1 : Int) (x5 : Int) : A_lszRecS_0 := itX (fun v : V_lszRecS_0 => ss_lszRecS_0 v.1 v.2.1 v.2.2) fl_lszRecS_0 (x0, x1, x5)
noncomputable def ct_lszRecS_0 (a : A_lszRecS_0) : CT := (.br (a.1 == 0) (.done .ret E_lszRecS_0_0 (((), (), (), (), a.2.1, u23), ())) (.br (a.1 == 1) (.done (.exit 0) E_lszRecS_0_1 (((), a.2.2, u26), ())) .fail))
noncomputable def T_lszRecS_0 (x0 : LIILIBBee) (x1 : Int) (x5 : Int) : CT := ct_lszRecS_0 (it_lszRecS_0 x0 x1 x5)
noncomputable abbrev sp_lszRecS_0 : S_lszRecS_0.den → RT S_lszRecS_0.den := fun d => st_lszRecS_0 d.1.1 d.1.2.1 d.1.2.2.2.2.2.1
noncomputable abbrev pk_lszRecS_0 (x0 : LIILIBBee) (x1 : Int) (x5 : Int) : S_lszRecS_0.den := ((x0, x1, (), (), (), x5, u22), ())
noncomputable def body_lszRecS_0 : Code := ((loopsIn 0 (bodyOf Try.f43)).getD 0 (0, .skip)).2
noncomputable abbrev pv_lszRecS_0 (v : V_lszRecS_0) : S_lszRecS_0.den := pk_lszRecS_0 v.1 v.2.1 v.2.2
theorem R_lszRecS_0 (x0 : LIILIBBee) (x1 : Int) (x5 : Int) : (T_lszRecS_0 x0 x1 x5).val (D := S_lszRecS_0.den) = .fail ∨ Runs sp_lszRecS_0 (pk_lszRecS_0 x0 x1 x5) (T_lszRecS_0 x0 x1 x5).val := Runs.ofIt (step := sp_lszRecS_0) pv_lszRecS_0 (ct := ct_lszRecS_0) rfl (fun v => ((relB (relB (relB (relB rfl rfl) rfl) rfl) rfl) : (st_lszRecS_0 v.1 v.2.1 v.2.2).val = relS pv_lszRecS_0 ct_lszRecS_0 (ss_lszRecS_0 v.1 v.2.1 v.2.2))) (fun a => ((cendB (cendD (by simp)) (cendB (cendD (by simp)) cendF)) : CEnd _ (ct_lszRecS_0 a))) (x0, x1, x5)
theorem rd_lszRecS_0 : ∀ d, execC Try.prog tt S3 QF3 (fun _ _ => none) 0 body_lszRecS_0 (S_lszRecS_0.st d 0 []) (fun e s' => some (e, S_lszRecS_0.cutE (kepts [4] [(0, [1])]) e s')) = (sp_lszRecS_0 d).opt 0 [] := by
  intro d
  kernel_rfl
noncomputable abbrev say_lszRecS_0 : St → Option Tree := S_lszRecS_0.say 0 [] [] (fun d => T_lszRecS_0 d.1.1 d.1.2.1 d.1.2.2.2.2.2.1)
theorem lw_lszRecS_0 : LoopWp Try.prog say_lszRecS_0 body_lszRecS_0 := SS.wp G3 (fun _ _ => none) (by rw [show loopsIn 0 body_lszRecS_0 = [] by kernel_rfl]; simp) S_lszRecS_0 0 [] (kepts [4] [(0, [1])]) [] sp_lszRecS_0 rd_lszRecS_0 _ (fun d => R_lszRecS_0 d.1.1 d.1.2.1 d.1.2.2.2.2.2.1)
noncomputable def lszRecS (a0 : LIILIBBee) (a1 : Int) : Int := (cond (decide ((IntKind.wrap .i64 (a1 - ((a0.length : Nat) : Int))) < (0 : Int))) (-1 : Int) (cond ((it_lszRecS_0 a0 (IntKind.wrap .i64 (a1 - ((a0.length : Nat) : Int))) (0 : Int)).1 == 0) ((it_lszRecS_0 a0 (IntKind.wrap .i64 (a1 - ((a0.length : Nat) : Int))) (0 : Int)).2.1) ((it_lszRecS_0 a0 (IntKind.wrap .i64 (a1 - ((a0.length : Nat) : Int))) (0 : Int)).2.2)))
noncomputable abbrev e_lszRecS (r : Int) : AV × List AObj := ((.t true (.int .i64) r), [])
noncomputable abbrev F_lszRecS (r : Int) := some (e_lszRecS r)
noncomputable abbrev g_lszRecS : pshsDen P_lszRecS → AV × List AObj := fun d => e_lszRecS (lszRecS d.1 d.2.1)
noncomputable def q_lszRecS (a0 : LIILIBBee) (a1 : Int) : Bool := cond (decide ((IntKind.wrap .i64 (a1 - ((a0.length : Nat) : Int))) < (0 : Int))) true (cond ((it_lszRecS_0 a0 (IntKind.wrap .i64 (a1 - ((a0.length : Nat) : Int))) (0 : Int)).1 == 0) true ((it_lszRecS_0 a0 (IntKind.wrap .i64 (a1 - ((a0.length : Nat) : Int))) (0 : Int)).1 == 1))
noncomputable abbrev pre_lszRecS : pshsDen P_lszRecS → Bool := fun d => q_lszRecS d.1 d.2.1
theorem runA_lszRecS (a0 : LIILIBBee) (a1 : Int) (hp : q_lszRecS a0 a1 = true) : runP true Try.prog tt S3 QF3 (fun b => match b with | 0 => say_lszRecS_0 | _ => fun _ => none) Try.f43 (argsMk P_lszRecS (a0, (a1, ()))) = some (g_lszRecS (a0, (a1, ()))) := by
  unfold q_lszRecS at hp
  refine Eq.trans (b := (cond (decide ((IntKind.wrap .i64 (a1 - ((a0.length : Nat) : Int))) < (0 : Int))) (some (e_lszRecS (-1 : Int))) (cond ((it_lszRecS_0 a0 (IntKind.wrap .i64 (a1 - ((a0.length : Nat) : Int))) (0 : Int)).1 == 0) (some (e_lszRecS ((it_lszRecS_0 a0 (IntKind.wrap .i64 (a1 - ((a0.length : Nat) : Int))) (0 : Int)).2.1))) (cond ((it_lszRecS_0 a0 (IntKind.wrap .i64 (a1 - ((a0.length : Nat) : Int))) (0 : Int)).1 == 1) (some (e_lszRecS ((it_lszRecS_0 a0 (IntKind.wrap .i64 (a1 - ((a0.length : Nat) : Int))) (0 : Int)).2.2))) none)))) (by kernel_rfl) ?_
  exact (cndQ (F := F_lszRecS) hp (fun hp => rfl) (fun hp => (cndQ (F := F_lszRecS) hp (fun hp => rfl) (fun hp => (cndT hp fun _h => rfl)))))
theorem run_lszRecS : ∀ d, pre_lszRecS d = true → runP true Try.prog tt S3 QF3 (fun b => match b with | 0 => say_lszRecS_0 | _ => fun _ => none) Try.f43 (argsMk P_lszRecS d) = some (g_lszRecS d) := fun d hp => runA_lszRecS d.1 d.2.1 hp
theorem c_lszRecS : PContract Try.prog 43 (sumOf P_lszRecS pre_lszRecS g_lszRecS) := PContract.of_data true G3 (fn := Try.f43) (by kernel_rfl) (L := fun b => match b with | 0 => say_lszRecS_0 | _ => fun _ => none) (by rw [show loopsIn 0 (bodyOf Try.f43) = [(0, body_lszRecS_0)] by kernel_rfl]; intro p hp; simp only [List.mem_singleton] at hp; subst hp; exact lw_lszRecS_0) P_lszRecS pre_lszRecS g_lszRecS run_lszRecS
noncomputable def S4 : Tab := Tab.add S3 43 (lift (sumOf P_lszRecS pre_lszRecS g_lszRecS))
noncomputable def QF4 : FuncId → Bool := qadd QF3 43
theorem G4 : Good Try.prog tt S4 QF4 := G3.addQ c_lszRecS ⟨Try.f43, by kernel_rfl, by kernel_rfl, by kernel_rfl⟩ (fun _ => rfl)

/-! 141 loop.example/g00244/laws.szPair -/
noncomputable abbrev P_lszPair : List PSh := [.agg [.str, .str], .t (.int .i64)]
noncomputable def lszPair (a0 : ByteArray) (a1 : ByteArray) (a2 : Int) : Int := (cond (decide ((IntKind.wrap .i64 (a2 - ((a0.size : Nat) : Int))) < (0 : Int))) (-1 : Int) (cond (decide ((IntKind.wrap .i64 ((IntKind.wrap .i64 (a2 - ((a0.size : Nat) : Int))) - ((a1.size : Nat) : Int))) < (0 : Int))) (-1 : Int) (IntKind.wrap .i64 ((IntKind.wrap .i64 (a2 - ((a0.size : Nat) : Int))) - ((a1.size : Nat) : Int)))))
noncomputable abbrev e_lszPair (r : Int) : AV × List AObj := ((.t true (.int .i64) r), [])
noncomputable abbrev F_lszPair (r : Int) := some (e_lszPair r)
noncomputable abbrev g_lszPair : pshsDen P_lszPair → AV × List AObj := fun d => e_lszPair (lszPair d.1.1 d.1.2.1 d.2.1)
noncomputable abbrev pre_lszPair : pshsDen P_lszPair → Bool := fun d => true
theorem runA_lszPair (a0 : ByteArray) (a1 : ByteArray) (a2 : Int) : runP true Try.prog tt S4 QF4 (fun _ _ => none) Try.f141 (argsMk P_lszPair ((a0, (a1, ())), (a2, ()))) = some (g_lszPair ((a0, (a1, ())), (a2, ()))) := by
  refine Eq.trans (b := (cond (decide ((IntKind.wrap .i64 (a2 - ((a0.size : Nat) : Int))) < (0 : Int))) (some (e_lszPair (-1 : Int))) (cond (decide ((IntKind.wrap .i64 ((IntKind.wrap .i64 (a2 - ((a0.size : Nat) : Int))) - ((a1.size : Nat) : Int))) < (0 : Int))) (some (e_lszPair (-1 : Int))) (some (e_lszPair (IntKind.wrap .i64 ((IntKind.wrap .i64 (a2 - ((a0.size : Nat) : Int))) - ((a1.size : Nat) : Int)))))))) (by kernel_rfl) ?_
  exact (cnd (F := F_lszPair) (fun _h => rfl) (fun _h => (cnd (F := F_lszPair) (fun _h => rfl) (fun _h => rfl))))
theorem run_lszPair : ∀ d, pre_lszPair d = true → runP true Try.prog tt S4 QF4 (fun _ _ => none) Try.f141 (argsMk P_lszPair d) = some (g_lszPair d) := fun d hp => runA_lszPair d.1.1 d.1.2.1 d.2.1
theorem c_lszPair : PContract Try.prog 141 (sumOf P_lszPair pre_lszPair g_lszPair) := PContract.of_data true G4 (fn := Try.f141) (by kernel_rfl) (L := fun _ _ => none) (by rw [show loopsIn 0 (bodyOf Try.f141) = [] by kernel_rfl]; simp) P_lszPair pre_lszPair g_lszPair run_lszPair
noncomputable def S5 : Tab := Tab.add S4 141 (lift (sumOf P_lszPair pre_lszPair g_lszPair))
noncomputable def QF5 : FuncId → Bool := qadd QF4 141
theorem G5 : Good Try.prog tt S5 QF5 := G4.addQ c_lszPair ⟨Try.f141, by kernel_rfl, by kernel_rfl, by kernel_rfl⟩ (fun _ => rfl)

/-! 96 loop.example/g00244/laws.szPairS -/
noncomputable abbrev LBBe := List (ByteArray × ByteArray)
noncomputable abbrev t_sptt : Ty := .sl (.pair .str .str)
noncomputable def f_lszPairS_0 (x0 : LBBe) (i : Nat) (b : Int) : Int := (lszPair ((x0.getD i (bE, bE)).1) ((x0.getD i (bE, bE)).2) b)
noncomputable abbrev P_lszPairS : List PSh := [.t t_sptt, .t (.int .i64)]
noncomputable abbrev S_lszPairS_0 : SS := ⟨(.t false t_sptt :: .t true (.int .i64) :: .junk :: .junk :: .junk :: .t true (.int .i64) :: jS21), []⟩
noncomputable abbrev E_lszPairS_0_0 : SS := ⟨(.junk :: .junk :: .junk :: .junk :: .t true (.int .i64) :: jS22), []⟩
noncomputable abbrev E_lszPairS_0_1 : SS := ⟨(.junk :: .t true (.int .i64) :: jS25), []⟩
noncomputable def st_lszPairS_0 (x0 : LBBe) (x1 : Int) (x5 : Int) : RT S_lszPairS_0.den := (.br (decide (x5 < ((x0.length : Nat) : Int))) (.br (decide (0 ≤ x5 ∧ x5 < ((x0.length : Nat) : Int))) (.br (decide ((lszPair ((x0.getD x5.toNat (bE, bE)).1) ((x0.getD x5.toNat (bE, bE)).2) x1) < (0 : Int))) (.done .ret E_lszPairS_0_0 (((), (), (), (), (-1 : Int), u23), ())) (.next ((x0, (lszPair ((x0.getD x5.toNat (bE, bE)).1) ((x0.getD x5.toNat (bE, bE)).2) x1), (), (), (), IntKind.wrap .i64 (x5 + (1 : Int)), u22), ()))) .fail) (.done (.exit 0) E_lszPairS_0_1 (((), x1, u26), ())))
noncomputable def T_lszPairS_0 (x0 : LBBe) (x1 : Int) (x5 : Int) : CT := (.br (decide (0 ≤ x5) && okL x0) (.br (isInl (szN (f_lszPairS_0 x0) (x0.length - x5.toNat) x5.toNat x1)) (.done (.exit 0) E_lszPairS_0_1 (((), (getInl (-1) (szN (f_lszPairS_0 x0) (x0.length - x5.toNat) x5.toNat x1)), u26), ())) (.done .ret E_lszPairS_0_0 (((), (), (), (), (-1 : Int), u23), ()))) .fail)
noncomputable abbrev sp_lszPairS_0 : S_lszPairS_0.den → RT S_lszPairS_0.den := fun d => st_lszPairS_0 d.1.1 d.1.2.1 d.1.2.2.2.2.2.1
noncomputable abbrev pk_lszPairS_0 (x0 : LBBe) (x1 : Int) (x5 : Int) : S_lszPairS_0.den := ((x0, x1, (), (), (), x5, u22), ())
noncomputable def body_lszPairS_0 : Code := ((loopsIn 0 (bodyOf Try.f96)).getD 0 (0, .skip)).2
theorem R_lszPairS_0 (x0 : LBBe) (x1 : Int) (x5 : Int) : (T_lszPairS_0 x0 x1 x5).val (D := S_lszPairS_0.den) = .fail ∨ Runs sp_lszPairS_0 (pk_lszPairS_0 x0 x1 x5) (T_lszPairS_0 x0 x1 x5).val := by
  cases hc : (decide (0 ≤ x5) && okL x0) with
  | false => left; simp only [T_lszPairS_0, CT.val, hc, cond_false]
  | true =>
    right
    simp only [T_lszPairS_0, CT.val, hc, cond_true]
    simp only [Bool.and_eq_true, decide_eq_true_eq] at hc
    obtain ⟨i, rfl⟩ := Int.eq_ofNat_of_zero_le hc.1
    have hs := okL_le hc.2
    simp only [Int.toNat_natCast]
    have h := Runs.loopN (step := sp_lszPairS_0) (fun j b => pk_lszPairS_0 x0 b (j : Int)) (fun _ _ => True) (x0.length) (fun i b => cond (decide (f_lszPairS_0 x0 i b < 0)) (.inr ()) (.inl (f_lszPairS_0 x0 i b)))
      (fin := fun b => ((.done (.exit 0) E_lszPairS_0_1 (((), b, u26), ())) : CT).val) (bad := fun _ => ((.done .ret E_lszPairS_0_0 (((), (), (), (), (-1 : Int), u23), ())) : CT).val)
      (fun i b hi _ => ?_) (fun i b hi _ => ?_) (x0.length - i) i x1 rfl trivial
    · simp only [szN]
      revert h
      cases loopN (fun i b => cond (decide (f_lszPairS_0 x0 i b < 0)) (.inr ()) (.inl (f_lszPairS_0 x0 i b))) (x0.length - i) i x1 with
      | inl b => exact id
      | inr c => exact id
    · 
      have h0a : decide ((i : Int) < ((x0.length : Nat) : Int)) = true := decide_eq_true (by omega)
      have h0b : decide (0 ≤ (i : Int) ∧ (i : Int) < ((x0.length : Nat) : Int)) = true := decide_eq_true (by omega)
      have e : (sp_lszPairS_0 (pk_lszPairS_0 x0 b (i : Int))).val = cond (decide (f_lszPairS_0 x0 i b < 0)) ((.done .ret E_lszPairS_0_0 (((), (), (), (), (-1 : Int), u23), ())) : CT).val (.next (pk_lszPairS_0 x0 (f_lszPairS_0 x0 i b) ((i + 1 : Nat) : Int))) := by
        simp only [sp_lszPairS_0, st_lszPairS_0, RT.val, h0a, h0b, cond_true, wrapS i (by omega), Int.toNat_natCast]
        rfl
      cases hr : decide (f_lszPairS_0 x0 i b < 0) with
      | true => exact .inr ⟨(), _, _, _, rfl, by rw [e, hr]; rfl, rfl, by simp⟩
      | false => exact .inl ⟨_, rfl, trivial, by rw [e, hr]; rfl⟩
    · have h1 : decide ((i : Int) < ((x0.length : Nat) : Int)) = false := decide_eq_false (by omega)
      exact ⟨by simp only [sp_lszPairS_0, st_lszPairS_0, RT.val, h1, cond_false]; rfl, _, _, _, rfl, by simp⟩
theorem rd_lszPairS_0 : ∀ d, execC Try.prog tt S5 QF5 (fun _ _ => none) 0 body_lszPairS_0 (S_lszPairS_0.st d 0 []) (fun e s' => some (e, S_lszPairS_0.cutE (kepts [4] [(0, [1])]) e s')) = (sp_lszPairS_0 d).opt 0 [] := by
  intro d
  kernel_rfl
noncomputable abbrev say_lszPairS_0 : St → Option Tree := S_lszPairS_0.say 0 [] [] (fun d => T_lszPairS_0 d.1.1 d.1.2.1 d.1.2.2.2.2.2.1)
theorem lw_lszPairS_0 : LoopWp Try.prog say_lszPairS_0 body_lszPairS_0 := SS.wp G5 (fun _ _ => none) (by rw [show loopsIn 0 body_lszPairS_0 = [] by kernel_rfl]; simp) S_lszPairS_0 0 [] (kepts [4] [(0, [1])]) [] sp_lszPairS_0 rd_lszPairS_0 _ (fun d => R_lszPairS_0 d.1.1 d.1.2.1 d.1.2.2.2.2.2.1)
noncomputable def lszPairS (a0 : LBBe) (a1 : Int) : Int := (cond (decide ((IntKind.wrap .i64 (a1 - ((a0.length : Nat) : Int))) < (0 : Int))) (-1 : Int) (cond (isInl (szN (f_lszPairS_0 a0) (a0.length - (0 : Int).toNat) (0 : Int).toNat (IntKind.wrap .i64 (a1 - ((a0.length : Nat) : Int))))) (getInl (-1) (szN (f_lszPairS_0 a0) (a0.length - (0 : Int).toNat) (0 : Int).toNat (IntKind.wrap .i64 (a1 - ((a0.length : Nat) : Int))))) (-1 : Int)))
noncomputable abbrev e_lszPairS (r : Int) : AV × List AObj := ((.t true (.int .i64) r), [])
noncomputable abbrev F_lszPairS (r : Int) := some (e_lszPairS r)
noncomputable abbrev g_lszPairS : pshsDen P_lszPairS → AV × List AObj := fun d => e_lszPairS (lszPairS d.1 d.2.1)
noncomputable def q_lszPairS (a0 : LBBe) (a1 : Int) : Bool := decide (0 ≤ a1 ∧ a1 ≤ 1048576 ∧ a0.length ≤ 9223372036854775807)
noncomputable abbrev pre_lszPairS : pshsDen P_lszPairS → Bool := fun d => q_lszPairS d.1 d.2.1
theorem runA_lszPairS (a0 : LBBe) (a1 : Int) (hp : q_lszPairS a0 a1 = true) : runP true Try.prog tt S5 QF5 (fun b => match b with | 0 => say_lszPairS_0 | _ => fun _ => none) Try.f96 (argsMk P_lszPairS (a0, (a1, ()))) = some (g_lszPairS (a0, (a1, ()))) := by
  unfold q_lszPairS at hp
  refine Eq.trans (b := (cond (decide ((IntKind.wrap .i64 (a1 - ((a0.length : Nat) : Int))) < (0 : Int))) (some (e_lszPairS (-1 : Int))) (cond (decide (0 ≤ (0 : Int)) && okL a0) (cond (isInl (szN (f_lszPairS_0 a0) (a0.length - (0 : Int).toNat) (0 : Int).toNat (IntKind.wrap .i64 (a1 - ((a0.length : Nat) : Int))))) (some (e_lszPairS (getInl (-1) (szN (f_lszPairS_0 a0) (a0.length - (0 : Int).toNat) (0 : Int).toNat (IntKind.wrap .i64 (a1 - ((a0.length : Nat) : Int))))))) (some (e_lszPairS (-1 : Int)))) none))) (by kernel_rfl) ?_
  exact (cnd (F := F_lszPairS) (fun _h => rfl) (fun _h => (cndT (by simp only [decide_eq_true_eq, decide_eq_false_iff_not] at hp _h; have hw := wrap64 (n := a1 - ((a0.length : Nat) : Int)) (by omega) (by omega); rw [hw] at _h; simp [okL]; omega) (fun _h => (cnd (F := F_lszPairS) (fun _h => rfl) (fun _h => rfl))))))
theorem run_lszPairS : ∀ d, pre_lszPairS d = true → runP true Try.prog tt S5 QF5 (fun b => match b with | 0 => say_lszPairS_0 | _ => fun _ => none) Try.f96 (argsMk P_lszPairS d) = some (g_lszPairS d) := fun d hp => runA_lszPairS d.1 d.2.1 hp
theorem c_lszPairS : PContract Try.prog 96 (sumOf P_lszPairS pre_lszPairS g_lszPairS) := PContract.of_data true G5 (fn := Try.f96) (by kernel_rfl) (L := fun b => match b with | 0 => say_lszPairS_0 | _ => fun _ => none) (by rw [show loopsIn 0 (bodyOf Try.f96) = [(0, body_lszPairS_0)] by kernel_rfl]; intro p hp; simp only [List.mem_singleton] at hp; subst hp; exact lw_lszPairS_0) P_lszPairS pre_lszPairS g_lszPairS run_lszPairS
noncomputable def S6 : Tab := Tab.add S5 96 (lift (sumOf P_lszPairS pre_lszPairS g_lszPairS))
noncomputable def QF6 : FuncId → Bool := qadd QF5 96
theorem G6 : Good Try.prog tt S6 QF6 := G5.addQ c_lszPairS ⟨Try.f96, by kernel_rfl, by kernel_rfl, by kernel_rfl⟩ (fun _ => rfl)

/-! 52 loop.example/g00244/laws.szShard -/
noncomputable abbrev P_lszShard : List PSh := [.agg [(.int .i64), t_spipispiptt, (.int .i64), t_sptt, t_spipispiptt], .t (.int .i64)]
noncomputable def lszShard (a0 : Int) (a1 : LIILIBBee) (a2 : Int) (a3 : LBBe) (a4 : LIILIBBee) (a5 : Int) : Int := (cond (decide ((lszRecS a1 a5) < (0 : Int))) (-1 : Int) (cond (decide ((lszPairS a3 (lszRecS a1 a5)) < (0 : Int))) (-1 : Int) (cond (decide ((lszRecS a4 (lszPairS a3 (lszRecS a1 a5))) < (0 : Int))) (-1 : Int) (lszRecS a4 (lszPairS a3 (lszRecS a1 a5))))))
noncomputable abbrev e_lszShard (r : Int) : AV × List AObj := ((.t true (.int .i64) r), [])
noncomputable abbrev F_lszShard (r : Int) := some (e_lszShard r)
noncomputable abbrev g_lszShard : pshsDen P_lszShard → AV × List AObj := fun d => e_lszShard (lszShard d.1.1 d.1.2.1 d.1.2.2.1 d.1.2.2.2.1 d.1.2.2.2.2.1 d.2.1)
noncomputable def q_lszShard (a0 : Int) (a1 : LIILIBBee) (a2 : Int) (a3 : LBBe) (a4 : LIILIBBee) (a5 : Int) : Bool := (q_lszRecS a1 a5) && (cond (decide ((lszRecS a1 a5) < (0 : Int))) true ((q_lszPairS a3 (lszRecS a1 a5)) && (cond (decide ((lszPairS a3 (lszRecS a1 a5)) < (0 : Int))) true (q_lszRecS a4 (lszPairS a3 (lszRecS a1 a5))))))
noncomputable abbrev pre_lszShard : pshsDen P_lszShard → Bool := fun d => q_lszShard d.1.1 d.1.2.1 d.1.2.2.1 d.1.2.2.2.1 d.1.2.2.2.2.1 d.2.1
theorem runA_lszShard (a0 : Int) (a1 : LIILIBBee) (a2 : Int) (a3 : LBBe) (a4 : LIILIBBee) (a5 : Int) (hp : q_lszShard a0 a1 a2 a3 a4 a5 = true) : runP true Try.prog tt S6 QF6 (fun _ _ => none) Try.f52 (argsMk P_lszShard ((a0, (a1, (a2, (a3, (a4, ()))))), (a5, ()))) = some (g_lszShard ((a0, (a1, (a2, (a3, (a4, ()))))), (a5, ()))) := by
  unfold q_lszShard at hp
  refine Eq.trans (b := (cond (q_lszRecS a1 a5) (cond (decide ((lszRecS a1 a5) < (0 : Int))) (some (e_lszShard (-1 : Int))) (cond (q_lszPairS a3 (lszRecS a1 a5)) (cond (decide ((lszPairS a3 (lszRecS a1 a5)) < (0 : Int))) (some (e_lszShard (-1 : Int))) (cond (q_lszRecS a4 (lszPairS a3 (lszRecS a1 a5))) (cond (decide ((lszRecS a4 (lszPairS a3 (lszRecS a1 a5))) < (0 : Int))) (some (e_lszShard (-1 : Int))) (some (e_lszShard (lszRecS a4 (lszPairS a3 (lszRecS a1 a5)))))) none)) none)) none)) (by kernel_rfl) ?_
  exact (cndA hp fun hp => (cndQ (F := F_lszShard) hp (fun hp => rfl) (fun hp => (cndA hp fun hp => (cndQ (F := F_lszShard) hp (fun hp => rfl) (fun hp => (cndT hp fun _h => (cnd (F := F_lszShard) (fun _h => rfl) (fun _h => rfl)))))))))
theorem run_lszShard : ∀ d, pre_lszShard d = true → runP true Try.prog tt S6 QF6 (fun _ _ => none) Try.f52 (argsMk P_lszShard d) = some (g_lszShard d) := fun d hp => runA_lszShard d.1.1 d.1.2.1 d.1.2.2.1 d.1.2.2.2.1 d.1.2.2.2.2.1 d.2.1 hp
theorem c_lszShard : PContract Try.prog 52 (sumOf P_lszShard pre_lszShard g_lszShard) := PContract.of_data true G6 (fn := Try.f52) (by kernel_rfl) (L := fun _ _ => none) (by rw [show loopsIn 0 (bodyOf Try.f52) = [] by kernel_rfl]; simp) P_lszShard pre_lszShard g_lszShard run_lszShard
noncomputable def S7 : Tab := Tab.add S6 52 (lift (sumOf P_lszShard pre_lszShard g_lszShard))
noncomputable def QF7 : FuncId → Bool := qadd QF6 52
theorem G7 : Good Try.prog tt S7 QF7 := G6.addQ c_lszShard ⟨Try.f52, by kernel_rfl, by kernel_rfl, by kernel_rfl⟩ (fun _ => rfl)

/-! 112 loop.example/g00244/laws.toOp -/
noncomputable abbrev P_ltoOp : List PSh := [.agg [(.int .i64), .str, .str]]
noncomputable def ltoOp (a0 : Int) (a1 : ByteArray) (a2 : ByteArray) : Int × ByteArray × ByteArray := (a0, a1, a2)
noncomputable abbrev e_ltoOp (r : Int × ByteArray × ByteArray) : AV × List AObj := ((.agg [(.t true (.int .i64) r.1), (.t true .str r.2.1), (.t true .str r.2.2)]), [])
noncomputable abbrev F_ltoOp (r : Int × ByteArray × ByteArray) := some (e_ltoOp r)
noncomputable abbrev g_ltoOp : pshsDen P_ltoOp → AV × List AObj := fun d => e_ltoOp (ltoOp d.1.1 d.1.2.1 d.1.2.2.1)
noncomputable abbrev pre_ltoOp : pshsDen P_ltoOp → Bool := fun d => true
theorem runA_ltoOp (a0 : Int) (a1 : ByteArray) (a2 : ByteArray) : runP true Try.prog tt S7 QF7 (fun _ _ => none) Try.f112 (argsMk P_ltoOp ((a0, (a1, (a2, ()))), ())) = some (g_ltoOp ((a0, (a1, (a2, ()))), ())) := by
  kernel_rfl
theorem run_ltoOp : ∀ d, pre_ltoOp d = true → runP true Try.prog tt S7 QF7 (fun _ _ => none) Try.f112 (argsMk P_ltoOp d) = some (g_ltoOp d) := fun d hp => runA_ltoOp d.1.1 d.1.2.1 d.1.2.2.1
theorem c_ltoOp : PContract Try.prog 112 (sumOf P_ltoOp pre_ltoOp g_ltoOp) := PContract.of_data true G7 (fn := Try.f112) (by kernel_rfl) (L := fun _ _ => none) (by rw [show loopsIn 0 (bodyOf Try.f112) = [] by kernel_rfl]; simp) P_ltoOp pre_ltoOp g_ltoOp run_ltoOp
noncomputable def S8 : Tab := Tab.add S7 112 (lift (sumOf P_ltoOp pre_ltoOp g_ltoOp))
noncomputable def QF8 : FuncId → Bool := qadd QF7 112
theorem G8 : Good Try.prog tt S8 QF8 := G7.addQ c_ltoOp ⟨Try.f112, by kernel_rfl, by kernel_rfl, by kernel_rfl⟩ (fun _ => rfl)

/-! 66 loop.example/g00244/laws.toOpS -/
noncomputable abbrev jS18 : List Sh := .junk :: .junk :: .junk :: .junk :: .junk :: .junk :: .junk :: .junk :: .junk :: .junk :: .junk :: .junk :: .junk :: .junk :: .junk :: .junk :: .junk :: .junk :: []
noncomputable abbrev t_piptt : Ty := .pair (.int .i64) (.pair .str .str)
noncomputable abbrev jS19 : List Sh := .junk :: jS18
noncomputable abbrev u19 := ((), (), (), (), (), (), (), (), (), (), (), (), (), (), (), (), (), (), ())
noncomputable abbrev u24 := ((), u23)
noncomputable def f_ltoOpS_0 (x0 : LIBBe) (i : Nat) : Int × ByteArray × ByteArray := (((ltoOp ((x0.getD i ((0 : Int), (bE, bE))).1) (((x0.getD i ((0 : Int), (bE, bE))).2).1) (((x0.getD i ((0 : Int), (bE, bE))).2).2)).1), (((ltoOp ((x0.getD i ((0 : Int), (bE, bE))).1) (((x0.getD i ((0 : Int), (bE, bE))).2).1) (((x0.getD i ((0 : Int), (bE, bE))).2).2)).2.1), ((ltoOp ((x0.getD i ((0 : Int), (bE, bE))).1) (((x0.getD i ((0 : Int), (bE, bE))).2).1) (((x0.getD i ((0 : Int), (bE, bE))).2).2)).2.2)))
noncomputable abbrev P_ltoOpS : List PSh := [.t t_spiptt]
noncomputable abbrev S_ltoOpS_0 : SS := ⟨(.t false t_spiptt :: .junk :: .junk :: .all 0 3 :: .t true (.int .i64) :: jS18), [.rows 124 true t_piptt]⟩
noncomputable abbrev E_ltoOpS_0_0 : SS := ⟨(.junk :: .junk :: .junk :: .all 0 3 :: jS19), [.rows 124 true t_piptt]⟩
noncomputable def st_ltoOpS_0 (x0 : LIBBe) (x4 : Int) (h0 : LIBBe) : RT S_ltoOpS_0.den := (.br (decide (x4 < ((x0.length : Nat) : Int))) (.br (decide (0 ≤ x4 ∧ x4 < ((x0.length : Nat) : Int))) (.br (decide (0 ≤ x4 ∧ x4 < ((h0.length : Nat) : Int))) (.next ((x0, (), (), (), IntKind.wrap .i64 (x4 + (1 : Int)), u19), (h0.set x4.toNat (((ltoOp ((x0.getD x4.toNat ((0 : Int), (bE, bE))).1) (((x0.getD x4.toNat ((0 : Int), (bE, bE))).2).1) (((x0.getD x4.toNat ((0 : Int), (bE, bE))).2).2)).1), (((ltoOp ((x0.getD x4.toNat ((0 : Int), (bE, bE))).1) (((x0.getD x4.toNat ((0 : Int), (bE, bE))).2).1) (((x0.getD x4.toNat ((0 : Int), (bE, bE))).2).2)).2.1), ((ltoOp ((x0.getD x4.toNat ((0 : Int), (bE, bE))).1) (((x0.getD x4.toNat ((0 : Int), (bE, bE))).2).1) (((x0.getD x4.toNat ((0 : Int), (bE, bE))).2).2)).2.2))), ()))) .fail) .fail) (.done (.exit 0) E_ltoOpS_0_0 ((u24), (h0, ()))))
noncomputable def T_ltoOpS_0 (x0 : LIBBe) (x4 : Int) (h0 : LIBBe) : CT := (.br (decide (0 ≤ x4) && (decide (h0.length = x0.length) && okL x0)) (.done (.exit 0) E_ltoOpS_0_0 ((u24), ((foldN (fun i h => h.set i (f_ltoOpS_0 x0 i)) (x0.length - x4.toNat) x4.toNat h0), ()))) .fail)
noncomputable abbrev sp_ltoOpS_0 : S_ltoOpS_0.den → RT S_ltoOpS_0.den := fun d => st_ltoOpS_0 d.1.1 d.1.2.2.2.2.1 d.2.1
noncomputable abbrev pk_ltoOpS_0 (x0 : LIBBe) (x4 : Int) (h0 : LIBBe) : S_ltoOpS_0.den := ((x0, (), (), (), x4, u19), (h0, ()))
noncomputable def body_ltoOpS_0 : Code := ((loopsIn 0 (bodyOf Try.f66)).getD 0 (0, .skip)).2
theorem R_ltoOpS_0 (x0 : LIBBe) (x4 : Int) (h0 : LIBBe) : (T_ltoOpS_0 x0 x4 h0).val (D := S_ltoOpS_0.den) = .fail ∨ Runs sp_ltoOpS_0 (pk_ltoOpS_0 x0 x4 h0) (T_ltoOpS_0 x0 x4 h0).val := by
  cases hc : (decide (0 ≤ x4) && (decide (h0.length = x0.length) && okL x0)) with
  | false => left; simp only [T_ltoOpS_0, CT.val, hc, cond_false]
  | true =>
    right
    simp only [T_ltoOpS_0, CT.val, hc, cond_true]
    simp only [Bool.and_eq_true, decide_eq_true_eq] at hc
    obtain ⟨i, rfl⟩ := Int.eq_ofNat_of_zero_le hc.1
    have hs := okL_le hc.2.2
    simp only [Int.toNat_natCast]
    refine Runs.foldN (step := sp_ltoOpS_0) (fun j b => pk_ltoOpS_0 x0 (j : Int) b) (fun _ b => b.length = x0.length) (x0.length) (fun i h => h.set i (f_ltoOpS_0 x0 i))
      (fin := fun b => ((.done (.exit 0) E_ltoOpS_0_0 ((u24), (b, ()))) : CT).val) (fun i b hi hb => ⟨by simpa using hb, ?_⟩) (fun i b hi hb => ?_) (x0.length - i) i h0 rfl hc.2.1
    · 
      have h0a : decide ((i : Int) < ((x0.length : Nat) : Int)) = true := decide_eq_true (by omega)
      have h0b : decide (0 ≤ (i : Int) ∧ (i : Int) < ((x0.length : Nat) : Int)) = true := decide_eq_true (by omega)
      have h9 : decide (0 ≤ (i : Int) ∧ (i : Int) < ((b.length : Nat) : Int)) = true := decide_eq_true (by omega)
      simp only [sp_ltoOpS_0, st_ltoOpS_0, RT.val, h0a, h0b, h9, cond_true, wrapS i (by omega), Int.toNat_natCast]
      rfl
    · have h1 : decide ((i : Int) < ((x0.length : Nat) : Int)) = false := decide_eq_false (by omega)
      exact ⟨by simp only [sp_ltoOpS_0, st_ltoOpS_0, RT.val, h1, cond_false]; rfl, _, _, _, rfl, by simp⟩
theorem rd_ltoOpS_0 : ∀ d, execC Try.prog tt S8 QF8 (fun _ _ => none) 0 body_ltoOpS_0 (S_ltoOpS_0.st d 0 []) (fun e s' => some (e, S_ltoOpS_0.cutE (kepts [] [(0, [3])]) e s')) = (sp_ltoOpS_0 d).opt 0 [] := by
  intro d
  kernel_rfl
noncomputable abbrev say_ltoOpS_0 : St → Option Tree := S_ltoOpS_0.say 0 [] [] (fun d => T_ltoOpS_0 d.1.1 d.1.2.2.2.2.1 d.2.1)
theorem lw_ltoOpS_0 : LoopWp Try.prog say_ltoOpS_0 body_ltoOpS_0 := SS.wp G8 (fun _ _ => none) (by rw [show loopsIn 0 body_ltoOpS_0 = [] by kernel_rfl]; simp) S_ltoOpS_0 0 [] (kepts [] [(0, [3])]) [] sp_ltoOpS_0 rd_ltoOpS_0 _ (fun d => R_ltoOpS_0 d.1.1 d.1.2.2.2.2.1 d.2.1)
noncomputable def ltoOpS (a0 : LIBBe) : LIBBe := (foldN (fun i h => h.set i (f_ltoOpS_0 a0 i)) (a0.length - (0 : Int).toNat) (0 : Int).toNat (List.replicate ((a0.length : Nat) : Int).toNat ((0 : Int), (bE, bE))))
noncomputable abbrev e_ltoOpS (r : LIBBe) : AV × List AObj := ((.t true t_spiptt r), [])
noncomputable abbrev F_ltoOpS (r : LIBBe) := some (e_ltoOpS r)
noncomputable abbrev g_ltoOpS : pshsDen P_ltoOpS → AV × List AObj := fun d => e_ltoOpS (ltoOpS d.1)
noncomputable def q_ltoOpS (a0 : LIBBe) : Bool := okL a0
noncomputable abbrev pre_ltoOpS : pshsDen P_ltoOpS → Bool := fun d => q_ltoOpS d.1
theorem runA_ltoOpS (a0 : LIBBe) (hp : q_ltoOpS a0 = true) : runP true Try.prog tt S8 QF8 (fun b => match b with | 0 => say_ltoOpS_0 | _ => fun _ => none) Try.f66 (argsMk P_ltoOpS (a0, ())) = some (g_ltoOpS (a0, ())) := by
  unfold q_ltoOpS at hp
  refine Eq.trans (b := (cond (decide (0 ≤ ((a0.length : Nat) : Int) ∧ ((a0.length : Nat) : Int) = ((a0.length : Nat) : Int) ∧ ((a0.length : Nat) : Int).toNat * 40 ≤ MAXB ∧ ((a0.length : Nat) : Int) ≤ 9223372036854775807)) (cond (decide (0 ≤ (0 : Int)) && (decide ((List.replicate ((a0.length : Nat) : Int).toNat ((0 : Int), ((⟨#[]⟩ : ByteArray), (⟨#[]⟩ : ByteArray)))).length = a0.length) && okL a0)) (some (e_ltoOpS (foldN (fun i h => h.set i (f_ltoOpS_0 a0 i)) (a0.length - (0 : Int).toNat) (0 : Int).toNat (List.replicate ((a0.length : Nat) : Int).toNat ((0 : Int), ((⟨#[]⟩ : ByteArray), (⟨#[]⟩ : ByteArray))))))) none) none)) (by kernel_rfl) ?_
  exact (cndT (by first | rfl | decide | exact hp | (simp only [Bool.and_eq_true] at hp; simp only [hp]; done) | (simp [*]; done) | (simp [okL] at hp; simp [okL, MAXB]; omega) | (simp_all; done) | (simp at *; omega)) (fun _h => (cndT (by first | rfl | decide | exact hp | (simp only [Bool.and_eq_true] at hp; simp only [hp]; done) | (simp [*]; done) | (simp [okL] at hp; simp [okL, MAXB]; omega) | (simp_all; done) | (simp at *; omega)) (fun _h => rfl))))
theorem run_ltoOpS : ∀ d, pre_ltoOpS d = true → runP true Try.prog tt S8 QF8 (fun b => match b with | 0 => say_ltoOpS_0 | _ => fun _ => none) Try.f66 (argsMk P_ltoOpS d) = some (g_ltoOpS d) := fun d hp => runA_ltoOpS d.1 hp
theorem c_ltoOpS : PContract Try.prog 66 (sumOf P_ltoOpS pre_ltoOpS g_ltoOpS) := PContract.of_data true G8 (fn := Try.f66) (by kernel_rfl) (L := fun b => match b with | 0 => say_ltoOpS_0 | _ => fun _ => none) (by rw [show loopsIn 0 (bodyOf Try.f66) = [(0, body_ltoOpS_0)] by kernel_rfl]; intro p hp; simp only [List.mem_singleton] at hp; subst hp; exact lw_ltoOpS_0) P_ltoOpS pre_ltoOpS g_ltoOpS run_ltoOpS
noncomputable def S9 : Tab := Tab.add S8 66 (lift (sumOf P_ltoOpS pre_ltoOpS g_ltoOpS))
noncomputable def QF9 : FuncId → Bool := qadd QF8 66
theorem G9 : Good Try.prog tt S9 QF9 := G8.addQ c_ltoOpS ⟨Try.f66, by kernel_rfl, by kernel_rfl, by kernel_rfl⟩ (fun _ => rfl)

/-! 17 loop.example/g00244/laws.toRec -/
noncomputable abbrev P_ltoRec : List PSh := [.agg [(.int .i64), (.int .i64), t_spiptt]]
noncomputable def ltoRec (a0 : Int) (a1 : Int) (a2 : LIBBe) : Int × Int × LIBBe := (a0, a1, (ltoOpS a2))
noncomputable abbrev e_ltoRec (r : Int × Int × LIBBe) : AV × List AObj := ((.agg [(.t true (.int .i64) r.1), (.t true (.int .i64) r.2.1), (.t true t_spiptt r.2.2)]), [])
noncomputable abbrev F_ltoRec (r : Int × Int × LIBBe) := some (e_ltoRec r)
noncomputable abbrev g_ltoRec : pshsDen P_ltoRec → AV × List AObj := fun d => e_ltoRec (ltoRec d.1.1 d.1.2.1 d.1.2.2.1)
noncomputable def q_ltoRec (a0 : Int) (a1 : Int) (a2 : LIBBe) : Bool := okL a2
noncomputable abbrev pre_ltoRec : pshsDen P_ltoRec → Bool := fun d => q_ltoRec d.1.1 d.1.2.1 d.1.2.2.1
theorem runA_ltoRec (a0 : Int) (a1 : Int) (a2 : LIBBe) (hp : q_ltoRec a0 a1 a2 = true) : runP true Try.prog tt S9 QF9 (fun _ _ => none) Try.f17 (argsMk P_ltoRec ((a0, (a1, (a2, ()))), ())) = some (g_ltoRec ((a0, (a1, (a2, ()))), ())) := by
  unfold q_ltoRec at hp
  refine Eq.trans (b := (cond (q_ltoOpS a2) (some (e_ltoRec (a0, a1, (ltoOpS a2)))) none)) (by kernel_rfl) ?_
  exact (cndT (by first | rfl | decide | exact hp | (simp only [Bool.and_eq_true] at hp; simp only [hp]; done) | (simp [*]; done) | (simp [okL] at hp; simp [okL, MAXB]; omega) | (simp_all; done) | (simp at *; omega)) (fun _h => rfl))
theorem run_ltoRec : ∀ d, pre_ltoRec d = true → runP true Try.prog tt S9 QF9 (fun _ _ => none) Try.f17 (argsMk P_ltoRec d) = some (g_ltoRec d) := fun d hp => runA_ltoRec d.1.1 d.1.2.1 d.1.2.2.1 hp
theorem c_ltoRec : PContract Try.prog 17 (sumOf P_ltoRec pre_ltoRec g_ltoRec) := PContract.of_data true G9 (fn := Try.f17) (by kernel_rfl) (L := fun _ _ => none) (by rw [show loopsIn 0 (bodyOf Try.f17) = [] by kernel_rfl]; simp) P_ltoRec pre_ltoRec g_ltoRec run_ltoRec
noncomputable def S10 : Tab := Tab.add S9 17 (lift (sumOf P_ltoRec pre_ltoRec g_ltoRec))
noncomputable def QF10 : FuncId → Bool := qadd QF9 17
theorem G10 : Good Try.prog tt S10 QF10 := G9.addQ c_ltoRec ⟨Try.f17, by kernel_rfl, by kernel_rfl, by kernel_rfl⟩ (fun _ => rfl)

/-! 45 loop.example/g00244/laws.toRecS -/
noncomputable abbrev P_ltoRecS : List PSh := [.t t_spipispiptt]
noncomputable abbrev S_ltoRecS_0 : SS := ⟨(.t false t_spipispiptt :: .junk :: .junk :: .all 0 3 :: .t true (.int .i64) :: jS18), [.rows 30 true t_pipispiptt]⟩
noncomputable abbrev E_ltoRecS_0_0 : SS := ⟨(.junk :: .junk :: .junk :: .all 0 3 :: jS19), [.rows 30 true t_pipispiptt]⟩
noncomputable def st_ltoRecS_0 (x0 : LIILIBBee) (x4 : Int) (h0 : LIILIBBee) : RT S_ltoRecS_0.den := (.br (decide (x4 < ((x0.length : Nat) : Int))) (.br (decide (0 ≤ x4 ∧ x4 < ((x0.length : Nat) : Int))) (.br (q_ltoRec ((x0.getD x4.toNat ((0 : Int), ((0 : Int), []))).1) (((x0.getD x4.toNat ((0 : Int), ((0 : Int), []))).2).1) (((x0.getD x4.toNat ((0 : Int), ((0 : Int), []))).2).2)) (.br (decide (0 ≤ x4 ∧ x4 < ((h0.length : Nat) : Int))) (.next ((x0, (), (), (), IntKind.wrap .i64 (x4 + (1 : Int)), u19), (h0.set x4.toNat (((ltoRec ((x0.getD x4.toNat ((0 : Int), ((0 : Int), []))).1) (((x0.getD x4.toNat ((0 : Int), ((0 : Int), []))).2).1) (((x0.getD x4.toNat ((0 : Int), ((0 : Int), []))).2).2)).1), (((ltoRec ((x0.getD x4.toNat ((0 : Int), ((0 : Int), []))).1) (((x0.getD x4.toNat ((0 : Int), ((0 : Int), []))).2).1) (((x0.getD x4.toNat ((0 : Int), ((0 : Int), []))).2).2)).2.1), ((ltoRec ((x0.getD x4.toNat ((0 : Int), ((0 : Int), []))).1) (((x0.getD x4.toNat ((0 : Int), ((0 : Int), []))).2).1) (((x0.getD x4.toNat ((0 : Int), ((0 : Int), []))).2).2)).2.2))), ()))) .fail) .fail) .fail) (.done (.exit 0) E_ltoRecS_0_0 ((u24), (h0, ()))))
noncomputable abbrev V_ltoRecS_0 := (LIILIBBee) × (Int) × (LIILIBBee)
noncomputable abbrev A_ltoRecS_0 := Nat × (LIILIBBee)
noncomputable def fl_ltoRecS_0 : A_ltoRecS_0 := (99, ([] : LIILIBBee))
noncomputable def ss_ltoRecS_0 (x0 : LIILIBBee) (x4 : Int) (h0 : LIILIBBee) : V_ltoRecS_0 ⊕ A_ltoRecS_0 := (cond (decide (x4 < ((x0.length : Nat) : Int))) (cond (decide (0 ≤ x4 ∧ x4 < ((x0.length : Nat) : Int))) (cond (q_ltoRec ((x0.getD x4.toNat ((0 : Int), ((0 : Int), []))).1) (((x0.getD x4.toNat ((0 : Int), ((0 : Int), []))).2).1) (((x0.getD x4.toNat ((0 : Int), ((0 : Int), []))).2).2)) (cond (decide (0 ≤ x4 ∧ x4 < ((h0.length : Nat) : Int))) (.inl (x0, IntKind.wrap .i64 (x4 + (1 : Int)), h0.set x4.toNat (((ltoRec ((x0.getD x4.toNat ((0 : Int), ((0 : Int), []))).1) (((x0.getD x4.toNat ((0 : Int), ((0 : Int), []))).2).1) (((x0.getD x4.toNat ((0 : Int), ((0 : Int), []))).2).2)).1), (((ltoRec ((x0.getD x4.toNat ((0 : Int), ((0 : Int), []))).1) (((x0.getD x4.toNat ((0 : Int), ((0 : Int), []))).2).1) (((x0.getD x4.toNat ((0 : Int), ((0 : Int), []))).2).2)).2.1), ((ltoRec ((x0.getD x4.toNat ((0 : Int), ((0 : Int), []))).1) (((x0.getD x4.toNat ((0 : Int), ((0 : Int), []))).2).1) (((x0.getD x4.toNat ((0 : Int), ((0 : Int), []))).2).2)).2.2))))) (.inr fl_ltoRecS_0)) (.inr fl_ltoRecS_0)) (.inr fl_ltoRecS_0)) (.inr (0, h0)))
noncomputable def it_ltoRecS_0 (x0 : LIILIBBee) (x4 : Int) (h0 : LIILIBBee) : A_ltoRecS_0 := itX (fun v : V_ltoRecS_0 => ss_ltoRecS_0 v.1 v.2.1 v.2.2) fl_ltoRecS_0 (x0, x4, h0)
noncomputable def ct_ltoRecS_0 (a : A_ltoRecS_0) : CT := (.br (a.1 == 0) (.done (.exit 0) E_ltoRecS_0_0 ((u24), (a.2, ()))) .fail)
noncomputable def T_ltoRecS_0 (x0 : LIILIBBee) (x4 : Int) (h0 : LIILIBBee) : CT := ct_ltoRecS_0 (it_ltoRecS_0 x0 x4 h0)
noncomputable abbrev sp_ltoRecS_0 : S_ltoRecS_0.den → RT S_ltoRecS_0.den := fun d => st_ltoRecS_0 d.1.1 d.1.2.2.2.2.1 d.2.1
noncomputable abbrev pk_ltoRecS_0 (x0 : LIILIBBee) (x4 : Int) (h0 : LIILIBBee) : S_ltoRecS_0.den := ((x0, (), (), (), x4, u19), (h0, ()))
noncomputable def body_ltoRecS_0 : Code := ((loopsIn 0 (bodyOf Try.f45)).getD 0 (0, .skip)).2
noncomputable abbrev pv_ltoRecS_0 (v : V_ltoRecS_0) : S_ltoRecS_0.den := pk_ltoRecS_0 v.1 v.2.1 v.2.2
theorem R_ltoRecS_0 (x0 : LIILIBBee) (x4 : Int) (h0 : LIILIBBee) : (T_ltoRecS_0 x0 x4 h0).val (D := S_ltoRecS_0.den) = .fail ∨ Runs sp_ltoRecS_0 (pk_ltoRecS_0 x0 x4 h0) (T_ltoRecS_0 x0 x4 h0).val := Runs.ofIt (step := sp_ltoRecS_0) pv_ltoRecS_0 (ct := ct_ltoRecS_0) rfl (fun v => ((relB (relB (relB (relB rfl rfl) rfl) rfl) rfl) : (st_ltoRecS_0 v.1 v.2.1 v.2.2).val = relS pv_ltoRecS_0 ct_ltoRecS_0 (ss_ltoRecS_0 v.1 v.2.1 v.2.2))) (fun a => ((cendB (cendD (by simp)) cendF) : CEnd _ (ct_ltoRecS_0 a))) (x0, x4, h0)
theorem rd_ltoRecS_0 : ∀ d, execC Try.prog tt S10 QF10 (fun _ _ => none) 0 body_ltoRecS_0 (S_ltoRecS_0.st d 0 []) (fun e s' => some (e, S_ltoRecS_0.cutE (kepts [] [(0, [3])]) e s')) = (sp_ltoRecS_0 d).opt 0 [] := by
  intro d
  kernel_rfl
noncomputable abbrev say_ltoRecS_0 : St → Option Tree := S_ltoRecS_0.say 0 [] [] (fun d => T_ltoRecS_0 d.1.1 d.1.2.2.2.2.1 d.2.1)
theorem lw_ltoRecS_0 : LoopWp Try.prog say_ltoRecS_0 body_ltoRecS_0 := SS.wp G10 (fun _ _ => none) (by rw [show loopsIn 0 body_ltoRecS_0 = [] by kernel_rfl]; simp) S_ltoRecS_0 0 [] (kepts [] [(0, [3])]) [] sp_ltoRecS_0 rd_ltoRecS_0 _ (fun d => R_ltoRecS_0 d.1.1 d.1.2.2.2.2.1 d.2.1)
noncomputable def ltoRecS (a0 : LIILIBBee) : LIILIBBee := ((it_ltoRecS_0 a0 (0 : Int) (List.replicate ((a0.length : Nat) : Int).toNat ((0 : Int), ((0 : Int), [])))).2)
noncomputable abbrev e_ltoRecS (r : LIILIBBee) : AV × List AObj := ((.t true t_spipispiptt r), [])
noncomputable abbrev F_ltoRecS (r : LIILIBBee) := some (e_ltoRecS r)
noncomputable abbrev g_ltoRecS : pshsDen P_ltoRecS → AV × List AObj := fun d => e_ltoRecS (ltoRecS d.1)
noncomputable def q_ltoRecS (a0 : LIILIBBee) : Bool := (decide (0 ≤ ((a0.length : Nat) : Int) ∧ ((a0.length : Nat) : Int) = ((a0.length : Nat) : Int) ∧ ((a0.length : Nat) : Int).toNat * 40 ≤ MAXB ∧ ((a0.length : Nat) : Int) ≤ 9223372036854775807)) && ((it_ltoRecS_0 a0 (0 : Int) (List.replicate ((a0.length : Nat) : Int).toNat ((0 : Int), ((0 : Int), [])))).1 == 0)
noncomputable abbrev pre_ltoRecS : pshsDen P_ltoRecS → Bool := fun d => q_ltoRecS d.1
theorem runA_ltoRecS (a0 : LIILIBBee) (hp : q_ltoRecS a0 = true) : runP true Try.prog tt S10 QF10 (fun b => match b with | 0 => say_ltoRecS_0 | _ => fun _ => none) Try.f45 (argsMk P_ltoRecS (a0, ())) = some (g_ltoRecS (a0, ())) := by
  unfold q_ltoRecS at hp
  refine Eq.trans (b := (cond (decide (0 ≤ ((a0.length : Nat) : Int) ∧ ((a0.length : Nat) : Int) = ((a0.length : Nat) : Int) ∧ ((a0.length : Nat) : Int).toNat * 40 ≤ MAXB ∧ ((a0.length : Nat) : Int) ≤ 9223372036854775807)) (cond ((it_ltoRecS_0 a0 (0 : Int) (List.replicate ((a0.length : Nat) : Int).toNat ((0 : Int), ((0 : Int), [])))).1 == 0) (some (e_ltoRecS ((it_ltoRecS_0 a0 (0 : Int) (List.replicate ((a0.length : Nat) : Int).toNat ((0 : Int), ((0 : Int), [])))).2))) none) none)) (by kernel_rfl) ?_
  exact (cndA hp fun hp => (cndT hp fun _h => rfl))
theorem run_ltoRecS : ∀ d, pre_ltoRecS d = true → runP true Try.prog tt S10 QF10 (fun b => match b with | 0 => say_ltoRecS_0 | _ => fun _ => none) Try.f45 (argsMk P_ltoRecS d) = some (g_ltoRecS d) := fun d hp => runA_ltoRecS d.1 hp
theorem c_ltoRecS : PContract Try.prog 45 (sumOf P_ltoRecS pre_ltoRecS g_ltoRecS) := PContract.of_data true G10 (fn := Try.f45) (by kernel_rfl) (L := fun b => match b with | 0 => say_ltoRecS_0 | _ => fun _ => none) (by rw [show loopsIn 0 (bodyOf Try.f45) = [(0, body_ltoRecS_0)] by kernel_rfl]; intro p hp; simp only [List.mem_singleton] at hp; subst hp; exact lw_ltoRecS_0) P_ltoRecS pre_ltoRecS g_ltoRecS run_ltoRecS
noncomputable def S11 : Tab := Tab.add S10 45 (lift (sumOf P_ltoRecS pre_ltoRecS g_ltoRecS))
noncomputable def QF11 : FuncId → Bool := qadd QF10 45
theorem G11 : Good Try.prog tt S11 QF11 := G10.addQ c_ltoRecS ⟨Try.f45, by kernel_rfl, by kernel_rfl, by kernel_rfl⟩ (fun _ => rfl)

/-! 143 loop.example/g00244/laws.toPair -/
noncomputable abbrev P_ltoPair : List PSh := [.agg [.str, .str]]
noncomputable def ltoPair (a0 : ByteArray) (a1 : ByteArray) : ByteArray × ByteArray := (a0, a1)
noncomputable abbrev e_ltoPair (r : ByteArray × ByteArray) : AV × List AObj := ((.agg [(.t true .str r.1), (.t true .str r.2)]), [])
noncomputable abbrev F_ltoPair (r : ByteArray × ByteArray) := some (e_ltoPair r)
noncomputable abbrev g_ltoPair : pshsDen P_ltoPair → AV × List AObj := fun d => e_ltoPair (ltoPair d.1.1 d.1.2.1)
noncomputable abbrev pre_ltoPair : pshsDen P_ltoPair → Bool := fun d => true
theorem runA_ltoPair (a0 : ByteArray) (a1 : ByteArray) : runP true Try.prog tt S11 QF11 (fun _ _ => none) Try.f143 (argsMk P_ltoPair ((a0, (a1, ())), ())) = some (g_ltoPair ((a0, (a1, ())), ())) := by
  kernel_rfl
theorem run_ltoPair : ∀ d, pre_ltoPair d = true → runP true Try.prog tt S11 QF11 (fun _ _ => none) Try.f143 (argsMk P_ltoPair d) = some (g_ltoPair d) := fun d hp => runA_ltoPair d.1.1 d.1.2.1
theorem c_ltoPair : PContract Try.prog 143 (sumOf P_ltoPair pre_ltoPair g_ltoPair) := PContract.of_data true G11 (fn := Try.f143) (by kernel_rfl) (L := fun _ _ => none) (by rw [show loopsIn 0 (bodyOf Try.f143) = [] by kernel_rfl]; simp) P_ltoPair pre_ltoPair g_ltoPair run_ltoPair
noncomputable def S12 : Tab := Tab.add S11 143 (lift (sumOf P_ltoPair pre_ltoPair g_ltoPair))
noncomputable def QF12 : FuncId → Bool := qadd QF11 143
theorem G12 : Good Try.prog tt S12 QF12 := G11.addQ c_ltoPair ⟨Try.f143, by kernel_rfl, by kernel_rfl, by kernel_rfl⟩ (fun _ => rfl)

/-! 99 loop.example/g00244/laws.toPairS -/
noncomputable abbrev t_ptt : Ty := .pair .str .str
noncomputable def f_ltoPairS_0 (x0 : LBBe) (i : Nat) : ByteArray × ByteArray := (((ltoPair ((x0.getD i (bE, bE)).1) ((x0.getD i (bE, bE)).2)).1), ((ltoPair ((x0.getD i (bE, bE)).1) ((x0.getD i (bE, bE)).2)).2))
noncomputable abbrev P_ltoPairS : List PSh := [.t t_sptt]
noncomputable abbrev S_ltoPairS_0 : SS := ⟨(.t false t_sptt :: .junk :: .junk :: .all 0 2 :: .t true (.int .i64) :: jS18), [.rows 110 true t_ptt]⟩
noncomputable abbrev E_ltoPairS_0_0 : SS := ⟨(.junk :: .junk :: .junk :: .all 0 2 :: jS19), [.rows 110 true t_ptt]⟩
noncomputable def st_ltoPairS_0 (x0 : LBBe) (x4 : Int) (h0 : LBBe) : RT S_ltoPairS_0.den := (.br (decide (x4 < ((x0.length : Nat) : Int))) (.br (decide (0 ≤ x4 ∧ x4 < ((x0.length : Nat) : Int))) (.br (decide (0 ≤ x4 ∧ x4 < ((h0.length : Nat) : Int))) (.next ((x0, (), (), (), IntKind.wrap .i64 (x4 + (1 : Int)), u19), (h0.set x4.toNat (((ltoPair ((x0.getD x4.toNat (bE, bE)).1) ((x0.getD x4.toNat (bE, bE)).2)).1), ((ltoPair ((x0.getD x4.toNat (bE, bE)).1) ((x0.getD x4.toNat (bE, bE)).2)).2)), ()))) .fail) .fail) (.done (.exit 0) E_ltoPairS_0_0 ((u24), (h0, ()))))
noncomputable def T_ltoPairS_0 (x0 : LBBe) (x4 : Int) (h0 : LBBe) : CT := (.br (decide (0 ≤ x4) && (decide (h0.length = x0.length) && okL x0)) (.done (.exit 0) E_ltoPairS_0_0 ((u24), ((foldN (fun i h => h.set i (f_ltoPairS_0 x0 i)) (x0.length - x4.toNat) x4.toNat h0), ()))) .fail)
noncomputable abbrev sp_ltoPairS_0 : S_ltoPairS_0.den → RT S_ltoPairS_0.den := fun d => st_ltoPairS_0 d.1.1 d.1.2.2.2.2.1 d.2.1
noncomputable abbrev pk_ltoPairS_0 (x0 : LBBe) (x4 : Int) (h0 : LBBe) : S_ltoPairS_0.den := ((x0, (), (), (), x4, u19), (h0, ()))
noncomputable def body_ltoPairS_0 : Code := ((loopsIn 0 (bodyOf Try.f99)).getD 0 (0, .skip)).2
theorem R_ltoPairS_0 (x0 : LBBe) (x4 : Int) (h0 : LBBe) : (T_ltoPairS_0 x0 x4 h0).val (D := S_ltoPairS_0.den) = .fail ∨ Runs sp_ltoPairS_0 (pk_ltoPairS_0 x0 x4 h0) (T_ltoPairS_0 x0 x4 h0).val := by
  cases hc : (decide (0 ≤ x4) && (decide (h0.length = x0.length) && okL x0)) with
  | false => left; simp only [T_ltoPairS_0, CT.val, hc, cond_false]
  | true =>
    right
    simp only [T_ltoPairS_0, CT.val, hc, cond_true]
    simp only [Bool.and_eq_true, decide_eq_true_eq] at hc
    obtain ⟨i, rfl⟩ := Int.eq_ofNat_of_zero_le hc.1
    have hs := okL_le hc.2.2
    simp only [Int.toNat_natCast]
    refine Runs.foldN (step := sp_ltoPairS_0) (fun j b => pk_ltoPairS_0 x0 (j : Int) b) (fun _ b => b.length = x0.length) (x0.length) (fun i h => h.set i (f_ltoPairS_0 x0 i))
      (fin := fun b => ((.done (.exit 0) E_ltoPairS_0_0 ((u24), (b, ()))) : CT).val) (fun i b hi hb => ⟨by simpa using hb, ?_⟩) (fun i b hi hb => ?_) (x0.length - i) i h0 rfl hc.2.1
    · 
      have h0a : decide ((i : Int) < ((x0.length : Nat) : Int)) = true := decide_eq_true (by omega)
      have h0b : decide (0 ≤ (i : Int) ∧ (i : Int) < ((x0.length : Nat) : Int)) = true := decide_eq_true (by omega)
      have h9 : decide (0 ≤ (i : Int) ∧ (i : Int) < ((b.length : Nat) : Int)) = true := decide_eq_true (by omega)
      simp only [sp_ltoPairS_0, st_ltoPairS_0, RT.val, h0a, h0b, h9, cond_true, wrapS i (by omega), Int.toNat_natCast]
      rfl
    · have h1 : decide ((i : Int) < ((x0.length : Nat) : Int)) = false := decide_eq_false (by omega)
      exact ⟨by simp only [sp_ltoPairS_0, st_ltoPairS_0, RT.val, h1, cond_false]; rfl, _, _, _, rfl, by simp⟩
theorem rd_ltoPairS_0 : ∀ d, execC Try.prog tt S12 QF12 (fun _ _ => none) 0 body_ltoPairS_0 (S_ltoPairS_0.st d 0 []) (fun e s' => some (e, S_ltoPairS_0.cutE (kepts [] [(0, [3])]) e s')) = (sp_ltoPairS_0 d).opt 0 [] := by
  intro d
  kernel_rfl
noncomputable abbrev say_ltoPairS_0 : St → Option Tree := S_ltoPairS_0.say 0 [] [] (fun d => T_ltoPairS_0 d.1.1 d.1.2.2.2.2.1 d.2.1)
theorem lw_ltoPairS_0 : LoopWp Try.prog say_ltoPairS_0 body_ltoPairS_0 := SS.wp G12 (fun _ _ => none) (by rw [show loopsIn 0 body_ltoPairS_0 = [] by kernel_rfl]; simp) S_ltoPairS_0 0 [] (kepts [] [(0, [3])]) [] sp_ltoPairS_0 rd_ltoPairS_0 _ (fun d => R_ltoPairS_0 d.1.1 d.1.2.2.2.2.1 d.2.1)
noncomputable def ltoPairS (a0 : LBBe) : LBBe := (foldN (fun i h => h.set i (f_ltoPairS_0 a0 i)) (a0.length - (0 : Int).toNat) (0 : Int).toNat (List.replicate ((a0.length : Nat) : Int).toNat (bE, bE)))
noncomputable abbrev e_ltoPairS (r : LBBe) : AV × List AObj := ((.t true t_sptt r), [])
noncomputable abbrev F_ltoPairS (r : LBBe) := some (e_ltoPairS r)
noncomputable abbrev g_ltoPairS : pshsDen P_ltoPairS → AV × List AObj := fun d => e_ltoPairS (ltoPairS d.1)
noncomputable def q_ltoPairS (a0 : LBBe) : Bool := okL a0
noncomputable abbrev pre_ltoPairS : pshsDen P_ltoPairS → Bool := fun d => q_ltoPairS d.1
theorem runA_ltoPairS (a0 : LBBe) (hp : q_ltoPairS a0 = true) : runP true Try.prog tt S12 QF12 (fun b => match b with | 0 => say_ltoPairS_0 | _ => fun _ => none) Try.f99 (argsMk P_ltoPairS (a0, ())) = some (g_ltoPairS (a0, ())) := by
  unfold q_ltoPairS at hp
  refine Eq.trans (b := (cond (decide (0 ≤ ((a0.length : Nat) : Int) ∧ ((a0.length : Nat) : Int) = ((a0.length : Nat) : Int) ∧ ((a0.length : Nat) : Int).toNat * 32 ≤ MAXB ∧ ((a0.length : Nat) : Int) ≤ 9223372036854775807)) (cond (decide (0 ≤ (0 : Int)) && (decide ((List.replicate ((a0.length : Nat) : Int).toNat ((⟨#[]⟩ : ByteArray), (⟨#[]⟩ : ByteArray))).length = a0.length) && okL a0)) (some (e_ltoPairS (foldN (fun i h => h.set i (f_ltoPairS_0 a0 i)) (a0.length - (0 : Int).toNat) (0 : Int).toNat (List.replicate ((a0.length : Nat) : Int).toNat ((⟨#[]⟩ : ByteArray), (⟨#[]⟩ : ByteArray)))))) none) none)) (by kernel_rfl) ?_
  exact (cndT (by first | rfl | decide | exact hp | (simp only [Bool.and_eq_true] at hp; simp only [hp]; done) | (simp [*]; done) | (simp [okL] at hp; simp [okL, MAXB]; omega) | (simp_all; done) | (simp at *; omega)) (fun _h => (cndT (by first | rfl | decide | exact hp | (simp only [Bool.and_eq_true] at hp; simp only [hp]; done) | (simp [*]; done) | (simp [okL] at hp; simp [okL, MAXB]; omega) | (simp_all; done) | (simp at *; omega)) (fun _h => rfl))))
theorem run_ltoPairS : ∀ d, pre_ltoPairS d = true → runP true Try.prog tt S12 QF12 (fun b => match b with | 0 => say_ltoPairS_0 | _ => fun _ => none) Try.f99 (argsMk P_ltoPairS d) = some (g_ltoPairS d) := fun d hp => runA_ltoPairS d.1 hp
theorem c_ltoPairS : PContract Try.prog 99 (sumOf P_ltoPairS pre_ltoPairS g_ltoPairS) := PContract.of_data true G12 (fn := Try.f99) (by kernel_rfl) (L := fun b => match b with | 0 => say_ltoPairS_0 | _ => fun _ => none) (by rw [show loopsIn 0 (bodyOf Try.f99) = [(0, body_ltoPairS_0)] by kernel_rfl]; intro p hp; simp only [List.mem_singleton] at hp; subst hp; exact lw_ltoPairS_0) P_ltoPairS pre_ltoPairS g_ltoPairS run_ltoPairS
noncomputable def S13 : Tab := Tab.add S12 99 (lift (sumOf P_ltoPairS pre_ltoPairS g_ltoPairS))
noncomputable def QF13 : FuncId → Bool := qadd QF12 99
theorem G13 : Good Try.prog tt S13 QF13 := G12.addQ c_ltoPairS ⟨Try.f99, by kernel_rfl, by kernel_rfl, by kernel_rfl⟩ (fun _ => rfl)

/-! 54 loop.example/g00244/laws.toShard -/
noncomputable abbrev P_ltoShard : List PSh := [.agg [(.int .i64), t_spipispiptt, (.int .i64), t_sptt, t_spipispiptt]]
noncomputable def ltoShard (a0 : Int) (a1 : LIILIBBee) (a2 : Int) (a3 : LBBe) (a4 : LIILIBBee) : Int × (LIILIBBee) × Int × (LBBe) × LIILIBBee := (a0, (ltoRecS a1), a2, (ltoPairS a3), (ltoRecS a4))
noncomputable abbrev e_ltoShard (r : Int × (LIILIBBee) × Int × (LBBe) × LIILIBBee) : AV × List AObj := ((.agg [(.t true (.int .i64) r.1), (.t true t_spipispiptt r.2.1), (.t true (.int .i64) r.2.2.1), (.t true t_sptt r.2.2.2.1), (.t true t_spipispiptt r.2.2.2.2)]), [])
noncomputable abbrev F_ltoShard (r : Int × (LIILIBBee) × Int × (LBBe) × LIILIBBee) := some (e_ltoShard r)
noncomputable abbrev g_ltoShard : pshsDen P_ltoShard → AV × List AObj := fun d => e_ltoShard (ltoShard d.1.1 d.1.2.1 d.1.2.2.1 d.1.2.2.2.1 d.1.2.2.2.2.1)
noncomputable def q_ltoShard (a0 : Int) (a1 : LIILIBBee) (a2 : Int) (a3 : LBBe) (a4 : LIILIBBee) : Bool := (q_ltoRecS a1) && ((q_ltoPairS a3) && (q_ltoRecS a4))
noncomputable abbrev pre_ltoShard : pshsDen P_ltoShard → Bool := fun d => q_ltoShard d.1.1 d.1.2.1 d.1.2.2.1 d.1.2.2.2.1 d.1.2.2.2.2.1
theorem runA_ltoShard (a0 : Int) (a1 : LIILIBBee) (a2 : Int) (a3 : LBBe) (a4 : LIILIBBee) (hp : q_ltoShard a0 a1 a2 a3 a4 = true) : runP true Try.prog tt S13 QF13 (fun _ _ => none) Try.f54 (argsMk P_ltoShard ((a0, (a1, (a2, (a3, (a4, ()))))), ())) = some (g_ltoShard ((a0, (a1, (a2, (a3, (a4, ()))))), ())) := by
  unfold q_ltoShard at hp
  refine Eq.trans (b := (cond (q_ltoRecS a1) (cond (q_ltoPairS a3) (cond (q_ltoRecS a4) (some (e_ltoShard (a0, (ltoRecS a1), a2, (ltoPairS a3), (ltoRecS a4)))) none) none) none)) (by kernel_rfl) ?_
  exact (cndA hp fun hp => (cndA hp fun hp => (cndT hp fun _h => rfl)))
theorem run_ltoShard : ∀ d, pre_ltoShard d = true → runP true Try.prog tt S13 QF13 (fun _ _ => none) Try.f54 (argsMk P_ltoShard d) = some (g_ltoShard d) := fun d hp => runA_ltoShard d.1.1 d.1.2.1 d.1.2.2.1 d.1.2.2.2.1 d.1.2.2.2.2.1 hp
theorem c_ltoShard : PContract Try.prog 54 (sumOf P_ltoShard pre_ltoShard g_ltoShard) := PContract.of_data true G13 (fn := Try.f54) (by kernel_rfl) (L := fun _ _ => none) (by rw [show loopsIn 0 (bodyOf Try.f54) = [] by kernel_rfl]; simp) P_ltoShard pre_ltoShard g_ltoShard run_ltoShard
noncomputable def S14 : Tab := Tab.add S13 54 (lift (sumOf P_ltoShard pre_ltoShard g_ltoShard))
noncomputable def QF14 : FuncId → Bool := qadd QF13 54
theorem G14 : Good Try.prog tt S14 QF14 := G13.addQ c_ltoShard ⟨Try.f54, by kernel_rfl, by kernel_rfl, by kernel_rfl⟩ (fun _ => rfl)

/-! 72 loop.example/g00244/spec.l1In -/
noncomputable abbrev P_sl1In : List PSh := [.t (.int .i64), .t (.int .i64), .t (.int .i64)]
noncomputable def sl1In (a0 : Int) (a1 : Int) (a2 : Int) : Bool := (cond (decide (a0 ≥ a1)) (decide (a0 ≤ a2)) false)
noncomputable abbrev e_sl1In (r : Bool) : AV × List AObj := ((.t true .bool r), [])
noncomputable abbrev F_sl1In (r : Bool) := some (e_sl1In r)
noncomputable abbrev g_sl1In : pshsDen P_sl1In → AV × List AObj := fun d => e_sl1In (sl1In d.1 d.2.1 d.2.2.1)
noncomputable abbrev pre_sl1In : pshsDen P_sl1In → Bool := fun d => true
theorem runA_sl1In (a0 : Int) (a1 : Int) (a2 : Int) : runP true Try.prog tt S14 QF14 (fun _ _ => none) Try.f72 (argsMk P_sl1In (a0, (a1, (a2, ())))) = some (g_sl1In (a0, (a1, (a2, ())))) := by
  refine Eq.trans (b := (cond (decide (a0 ≥ a1)) (some (e_sl1In (decide (a0 ≤ a2)))) (some (e_sl1In false)))) (by kernel_rfl) ?_
  exact (cnd (F := F_sl1In) (fun _h => rfl) (fun _h => rfl))
theorem run_sl1In : ∀ d, pre_sl1In d = true → runP true Try.prog tt S14 QF14 (fun _ _ => none) Try.f72 (argsMk P_sl1In d) = some (g_sl1In d) := fun d hp => runA_sl1In d.1 d.2.1 d.2.2.1
theorem c_sl1In : PContract Try.prog 72 (sumOf P_sl1In pre_sl1In g_sl1In) := PContract.of_data true G14 (fn := Try.f72) (by kernel_rfl) (L := fun _ _ => none) (by rw [show loopsIn 0 (bodyOf Try.f72) = [] by kernel_rfl]; simp) P_sl1In pre_sl1In g_sl1In run_sl1In
noncomputable def S15 : Tab := Tab.add S14 72 (lift (sumOf P_sl1In pre_sl1In g_sl1In))
noncomputable def QF15 : FuncId → Bool := qadd QF14 72
theorem G15 : Good Try.prog tt S15 QF15 := G14.addQ c_sl1In ⟨Try.f72, by kernel_rfl, by kernel_rfl, by kernel_rfl⟩ (fun _ => rfl)

/-! 124 loop.example/g00244/spec.l8At -/
noncomputable abbrev jS14 : List Sh := .junk :: .junk :: .junk :: .junk :: .junk :: .junk :: .junk :: .junk :: .junk :: .junk :: .junk :: .junk :: .junk :: .junk :: []
noncomputable abbrev jS15 : List Sh := .junk :: jS14
noncomputable abbrev u16 := ((), (), (), (), (), (), (), (), (), (), (), (), (), (), (), ())
noncomputable abbrev u15 := ((), (), (), (), (), (), (), (), (), (), (), (), (), (), ())
noncomputable abbrev u21 := ((), (), u19)
noncomputable abbrev P_sl8At : List PSh := [.t t_spipispiptt, .t (.int .i64)]
noncomputable abbrev S_sl8At_0 : SS := ⟨(.t false t_spipispiptt :: .t true (.int .i64) :: .junk :: .junk :: .junk :: .t true (.int .i64) :: jS14), []⟩
noncomputable abbrev E_sl8At_0_0 : SS := ⟨(.junk :: .junk :: .junk :: .junk :: .t true (.int .i64) :: jS15), []⟩
noncomputable abbrev E_sl8At_0_1 : SS := ⟨(.junk :: jS19), []⟩
noncomputable def st_sl8At_0 (x0 : LIILIBBee) (x1 : Int) (x5 : Int) : RT S_sl8At_0.den := (.br (decide (x5 < ((x0.length : Nat) : Int))) (.br (decide (0 ≤ x5 ∧ x5 < ((x0.length : Nat) : Int))) (.br ((((x0.getD x5.toNat ((0 : Int), ((0 : Int), []))).2).1) == x1) (.done .ret E_sl8At_0_0 (((), (), (), (), x5, u16), ())) (.next ((x0, x1, (), (), (), IntKind.wrap .i64 (x5 + (1 : Int)), u15), ()))) .fail) (.done (.exit 0) E_sl8At_0_1 ((u21), ())))
noncomputable abbrev V_sl8At_0 := (LIILIBBee) × (Int) × (Int)
noncomputable abbrev A_sl8At_0 := Nat × (Int)
noncomputable def fl_sl8At_0 : A_sl8At_0 := (99, ((0 : Int) : Int))
noncomputable def ss_sl8At_0 (x0 : LIILIBBee) (x1 : Int) (x5 : Int) : V_sl8At_0 ⊕ A_sl8At_0 := (cond (decide (x5 < ((x0.length : Nat) : Int))) (cond (decide (0 ≤ x5 ∧ x5 < ((x0.length : Nat) : Int))) (cond ((((x0.getD x5.toNat ((0 : Int), ((0 : Int), []))).2).1) == x1) (.inr (0, x5)) (.inl (x0, x1, IntKind.wrap .i64 (x5 + (1 : Int))))) (.inr fl_sl8At_0)) (.inr (1, ((0 : Int) : Int))))
noncomputable def it_sl8At_0 (x0 : LIILIBBee) (x1 : Int) (x5 : Int) : A_sl8At_0 := itX (fun v : V_sl8At_0 => ss_sl8At_0 v.1 v.2.1 v.2.2) fl_sl8At_0 (x0, x1, x5)
noncomputable def ct_sl8At_0 (a : A_sl8At_0) : CT := (.br (a.1 == 0) (.done .ret E_sl8At_0_0 (((), (), (), (), a.2, u16), ())) (.br (a.1 == 1) (.done (.exit 0) E_sl8At_0_1 ((u21), ())) .fail))
noncomputable def T_sl8At_0 (x0 : LIILIBBee) (x1 : Int) (x5 : Int) : CT := ct_sl8At_0 (it_sl8At_0 x0 x1 x5)
noncomputable abbrev sp_sl8At_0 : S_sl8At_0.den → RT S_sl8At_0.den := fun d => st_sl8At_0 d.1.1 d.1.2.1 d.1.2.2.2.2.2.1
noncomputable abbrev pk_sl8At_0 (x0 : LIILIBBee) (x1 : Int) (x5 : Int) : S_sl8At_0.den := ((x0, x1, (), (), (), x5, u15), ())
noncomputable def body_sl8At_0 : Code := ((loopsIn 0 (bodyOf Try.f124)).getD 0 (0, .skip)).2
noncomputable abbrev pv_sl8At_0 (v : V_sl8At_0) : S_sl8At_0.den := pk_sl8At_0 v.1 v.2.1 v.2.2
theorem R_sl8At_0 (x0 : LIILIBBee) (x1 : Int) (x5 : Int) : (T_sl8At_0 x0 x1 x5).val (D := S_sl8At_0.den) = .fail ∨ Runs sp_sl8At_0 (pk_sl8At_0 x0 x1 x5) (T_sl8At_0 x0 x1 x5).val := Runs.ofIt (step := sp_sl8At_0) pv_sl8At_0 (ct := ct_sl8At_0) rfl (fun v => ((relB (relB (relB rfl rfl) rfl) rfl) : (st_sl8At_0 v.1 v.2.1 v.2.2).val = relS pv_sl8At_0 ct_sl8At_0 (ss_sl8At_0 v.1 v.2.1 v.2.2))) (fun a => ((cendB (cendD (by simp)) (cendB (cendD (by simp)) cendF)) : CEnd _ (ct_sl8At_0 a))) (x0, x1, x5)
theorem rd_sl8At_0 : ∀ d, execC Try.prog tt S15 QF15 (fun _ _ => none) 0 body_sl8At_0 (S_sl8At_0.st d 0 []) (fun e s' => some (e, S_sl8At_0.cutE (kepts [4] [(0, [])]) e s')) = (sp_sl8At_0 d).opt 0 [] := by
  intro d
  kernel_rfl
noncomputable abbrev say_sl8At_0 : St → Option Tree := S_sl8At_0.say 0 [] [] (fun d => T_sl8At_0 d.1.1 d.1.2.1 d.1.2.2.2.2.2.1)
theorem lw_sl8At_0 : LoopWp Try.prog say_sl8At_0 body_sl8At_0 := SS.wp G15 (fun _ _ => none) (by rw [show loopsIn 0 body_sl8At_0 = [] by kernel_rfl]; simp) S_sl8At_0 0 [] (kepts [4] [(0, [])]) [] sp_sl8At_0 rd_sl8At_0 _ (fun d => R_sl8At_0 d.1.1 d.1.2.1 d.1.2.2.2.2.2.1)
noncomputable def sl8At (a0 : LIILIBBee) (a1 : Int) : Int := (cond ((it_sl8At_0 a0 a1 (0 : Int)).1 == 0) ((it_sl8At_0 a0 a1 (0 : Int)).2) (-1 : Int))
noncomputable abbrev e_sl8At (r : Int) : AV × List AObj := ((.t true (.int .i64) r), [])
noncomputable abbrev F_sl8At (r : Int) := some (e_sl8At r)
noncomputable abbrev g_sl8At : pshsDen P_sl8At → AV × List AObj := fun d => e_sl8At (sl8At d.1 d.2.1)
noncomputable def q_sl8At (a0 : LIILIBBee) (a1 : Int) : Bool := cond ((it_sl8At_0 a0 a1 (0 : Int)).1 == 0) true ((it_sl8At_0 a0 a1 (0 : Int)).1 == 1)
noncomputable abbrev pre_sl8At : pshsDen P_sl8At → Bool := fun d => q_sl8At d.1 d.2.1
theorem runA_sl8At (a0 : LIILIBBee) (a1 : Int) (hp : q_sl8At a0 a1 = true) : runP true Try.prog tt S15 QF15 (fun b => match b with | 0 => say_sl8At_0 | _ => fun _ => none) Try.f124 (argsMk P_sl8At (a0, (a1, ()))) = some (g_sl8At (a0, (a1, ()))) := by
  unfold q_sl8At at hp
  refine Eq.trans (b := (cond ((it_sl8At_0 a0 a1 (0 : Int)).1 == 0) (some (e_sl8At ((it_sl8At_0 a0 a1 (0 : Int)).2))) (cond ((it_sl8At_0 a0 a1 (0 : Int)).1 == 1) (some (e_sl8At (-1 : Int))) none))) (by kernel_rfl) ?_
  exact (cndQ (F := F_sl8At) hp (fun hp => rfl) (fun hp => (cndT hp fun _h => rfl)))
theorem run_sl8At : ∀ d, pre_sl8At d = true → runP true Try.prog tt S15 QF15 (fun b => match b with | 0 => say_sl8At_0 | _ => fun _ => none) Try.f124 (argsMk P_sl8At d) = some (g_sl8At d) := fun d hp => runA_sl8At d.1 d.2.1 hp
theorem c_sl8At : PContract Try.prog 124 (sumOf P_sl8At pre_sl8At g_sl8At) := PContract.of_data true G15 (fn := Try.f124) (by kernel_rfl) (L := fun b => match b with | 0 => say_sl8At_0 | _ => fun _ => none) (by rw [show loopsIn 0 (bodyOf Try.f124) = [(0, body_sl8At_0)] by kernel_rfl]; intro p hp; simp only [List.mem_singleton] at hp; subst hp; exact lw_sl8At_0) P_sl8At pre_sl8At g_sl8At run_sl8At
noncomputable def S16 : Tab := Tab.add S15 124 (lift (sumOf P_sl8At pre_sl8At g_sl8At))
noncomputable def QF16 : FuncId → Bool := qadd QF15 124
theorem G16 : Good Try.prog tt S16 QF16 := G15.addQ c_sl8At ⟨Try.f124, by kernel_rfl, by kernel_rfl, by kernel_rfl⟩ (fun _ => rfl)

/-! 154 loop.example/g00244/spec.KeyOk -/
noncomputable abbrev jS23 : List Sh := .junk :: jS22
noncomputable abbrev jS24 : List Sh := .junk :: jS23
noncomputable abbrev jS26 : List Sh := .junk :: jS25
noncomputable abbrev u25 := ((), u24)
noncomputable abbrev u27 := ((), u26)
noncomputable def sKeyAt (s : ByteArray) (i : Nat) : Bool := sl1In (IntKind.wrap .i64 (bt s (i : Int))) 97 122 || sl1In (IntKind.wrap .i64 (bt s (i : Int))) 48 57
noncomputable abbrev P_sKeyOk : List PSh := [.t .str]
noncomputable abbrev S_sKeyOk_0 : SS := ⟨(.t true .str :: .junk :: .junk :: .t true (.int .i64) :: jS23), []⟩
noncomputable abbrev E_sKeyOk_0_0 : SS := ⟨(.junk :: .junk :: .t true .bool :: jS24), []⟩
noncomputable abbrev E_sKeyOk_0_1 : SS := ⟨(.t true .str :: jS26), []⟩
noncomputable def st_sKeyOk_0 (x0 : ByteArray) (x3 : Int) : RT S_sKeyOk_0.den := (.br (decide (x3 < ((x0.size : Nat) : Int))) (.br (decide (0 ≤ x3 ∧ x3 < ((x0.size : Nat) : Int))) (.br (!(sl1In (IntKind.wrap .i64 (bt x0 x3)) (97 : Int) (122 : Int))) (.br (decide (0 ≤ x3 ∧ x3 < ((x0.size : Nat) : Int))) (.br (!(sl1In (IntKind.wrap .i64 (bt x0 x3)) (48 : Int) (57 : Int))) (.done .ret E_sKeyOk_0_0 (((), (), false, u25), ())) (.next ((x0, (), (), IntKind.wrap .i64 (x3 + (1 : Int)), u24), ()))) .fail) (.next ((x0, (), (), IntKind.wrap .i64 (x3 + (1 : Int)), u24), ()))) .fail) (.done (.exit 0) E_sKeyOk_0_1 ((x0, u27), ())))
noncomputable def T_sKeyOk_0 (x0 : ByteArray) (x3 : Int) : CT := (.br (decide (0 ≤ x3) && okS x0) (.br (allF (sKeyAt x0) (x0.size - x3.toNat) x3.toNat) (.done (.exit 0) E_sKeyOk_0_1 ((x0, u27), ())) (.done .ret E_sKeyOk_0_0 (((), (), false, u25), ()))) .fail)
noncomputable abbrev sp_sKeyOk_0 : S_sKeyOk_0.den → RT S_sKeyOk_0.den := fun d => st_sKeyOk_0 d.1.1 d.1.2.2.2.1
noncomputable abbrev pk_sKeyOk_0 (x0 : ByteArray) (x3 : Int) : S_sKeyOk_0.den := ((x0, (), (), x3, u24), ())
noncomputable def body_sKeyOk_0 : Code := ((loopsIn 0 (bodyOf Try.f154)).getD 0 (0, .skip)).2
theorem R_sKeyOk_0 (x0 : ByteArray) (x3 : Int) : (T_sKeyOk_0 x0 x3).val (D := S_sKeyOk_0.den) = .fail ∨ Runs sp_sKeyOk_0 (pk_sKeyOk_0 x0 x3) (T_sKeyOk_0 x0 x3).val := by
  cases hc : (decide (0 ≤ x3) && okS x0) with
  | false => left; simp only [T_sKeyOk_0, CT.val, hc, cond_false]
  | true =>
    right
    simp only [T_sKeyOk_0, CT.val, hc, cond_true]
    simp only [Bool.and_eq_true, decide_eq_true_eq] at hc
    obtain ⟨i, rfl⟩ := Int.eq_ofNat_of_zero_le hc.1
    have hs := okS_le hc.2
    simp only [Int.toNat_natCast]
    refine Runs.scan (fun j => pk_sKeyOk_0 x0 (j : Int)) (x0.size) (sKeyAt x0) (fun i hi => ?_) (fun i hi => ?_) ⟨_, _, _, rfl, by simp⟩ ⟨_, _, _, rfl, by simp⟩ _ _ rfl
    · 
      have h0a : decide ((i : Int) < ((x0.size : Nat) : Int)) = true := decide_eq_true (by omega)
      have h0b : decide (0 ≤ (i : Int) ∧ (i : Int) < ((x0.size : Nat) : Int)) = true := decide_eq_true (by omega)
      simp only [sp_sKeyOk_0, st_sKeyOk_0, RT.val, h0a, h0b, cond_true, wrapS i (by omega), Int.toNat_natCast]
      simp only [sKeyAt]
      cases sl1In (IntKind.wrap .i64 (bt x0 (i : Int))) 97 122 <;> cases sl1In (IntKind.wrap .i64 (bt x0 (i : Int))) 48 57 <;> rfl
    · have h1 : decide ((i : Int) < ((x0.size : Nat) : Int)) = false := decide_eq_false (by omega)
      simp only [sp_sKeyOk_0, st_sKeyOk_0, RT.val, h1, cond_false]
theorem rd_sKeyOk_0 : ∀ d, execC Try.prog tt S16 QF16 (fun _ _ => none) 0 body_sKeyOk_0 (S_sKeyOk_0.st d 0 []) (fun e s' => some (e, S_sKeyOk_0.cutE (kepts [2] [(0, [0])]) e s')) = (sp_sKeyOk_0 d).opt 0 [] := by
  intro d
  kernel_rfl
noncomputable abbrev say_sKeyOk_0 : St → Option Tree := S_sKeyOk_0.say 0 [] [] (fun d => T_sKeyOk_0 d.1.1 d.1.2.2.2.1)
theorem lw_sKeyOk_0 : LoopWp Try.prog say_sKeyOk_0 body_sKeyOk_0 := SS.wp G16 (fun _ _ => none) (by rw [show loopsIn 0 body_sKeyOk_0 = [] by kernel_rfl]; simp) S_sKeyOk_0 0 [] (kepts [2] [(0, [0])]) [] sp_sKeyOk_0 rd_sKeyOk_0 _ (fun d => R_sKeyOk_0 d.1.1 d.1.2.2.2.1)
noncomputable def sKeyOk (a0 : ByteArray) : Bool := (cond (allF (sKeyAt a0) (a0.size - (0 : Int).toNat) (0 : Int).toNat) (sl1In ((a0.size : Nat) : Int) (1 : Int) (12 : Int)) false)
noncomputable abbrev e_sKeyOk (r : Bool) : AV × List AObj := ((.t true .bool r), [])
noncomputable abbrev F_sKeyOk (r : Bool) := some (e_sKeyOk r)
noncomputable abbrev g_sKeyOk : pshsDen P_sKeyOk → AV × List AObj := fun d => e_sKeyOk (sKeyOk d.1)
noncomputable def q_sKeyOk (a0 : ByteArray) : Bool := okS a0
noncomputable abbrev pre_sKeyOk : pshsDen P_sKeyOk → Bool := fun d => q_sKeyOk d.1
theorem runA_sKeyOk (a0 : ByteArray) (hp : q_sKeyOk a0 = true) : runP true Try.prog tt S16 QF16 (fun b => match b with | 0 => say_sKeyOk_0 | _ => fun _ => none) Try.f154 (argsMk P_sKeyOk (a0, ())) = some (g_sKeyOk (a0, ())) := by
  unfold q_sKeyOk at hp
  refine Eq.trans (b := (cond (decide (0 ≤ (0 : Int)) && okS a0) (cond (allF (sKeyAt a0) (a0.size - (0 : Int).toNat) (0 : Int).toNat) (some (e_sKeyOk (sl1In ((a0.size : Nat) : Int) (1 : Int) (12 : Int)))) (some (e_sKeyOk false))) none)) (by kernel_rfl) ?_
  exact (cndT (by first | rfl | decide | exact hp | (simp only [Bool.and_eq_true] at hp; simp only [hp]; done) | (simp [*]; done) | (simp [okL] at hp; simp [okL, MAXB]; omega) | (simp_all; done) | (simp at *; omega)) (fun _h => (cnd (F := F_sKeyOk) (fun _h => rfl) (fun _h => rfl))))
theorem run_sKeyOk : ∀ d, pre_sKeyOk d = true → runP true Try.prog tt S16 QF16 (fun b => match b with | 0 => say_sKeyOk_0 | _ => fun _ => none) Try.f154 (argsMk P_sKeyOk d) = some (g_sKeyOk d) := fun d hp => runA_sKeyOk d.1 hp
theorem c_sKeyOk : PContract Try.prog 154 (sumOf P_sKeyOk pre_sKeyOk g_sKeyOk) := PContract.of_data true G16 (fn := Try.f154) (by kernel_rfl) (L := fun b => match b with | 0 => say_sKeyOk_0 | _ => fun _ => none) (by rw [show loopsIn 0 (bodyOf Try.f154) = [(0, body_sKeyOk_0)] by kernel_rfl]; intro p hp; simp only [List.mem_singleton] at hp; subst hp; exact lw_sKeyOk_0) P_sKeyOk pre_sKeyOk g_sKeyOk run_sKeyOk
noncomputable def S17 : Tab := Tab.add S16 154 (lift (sumOf P_sKeyOk pre_sKeyOk g_sKeyOk))
noncomputable def QF17 : FuncId → Bool := qadd QF16 154
theorem G17 : Good Try.prog tt S17 QF17 := G16.addQ c_sKeyOk ⟨Try.f154, by kernel_rfl, by kernel_rfl, by kernel_rfl⟩ (fun _ => rfl)

/-! 118 loop.example/g00244/spec.l7Op -/
noncomputable abbrev P_sl7Op : List PSh := [.agg [(.int .i64), .str, .str]]
noncomputable def sl7Op (a0 : Int) (a1 : ByteArray) (a2 : ByteArray) : Bool := (cond (!(sl1In a0 (1 : Int) (3 : Int))) false (cond (a0 == (2 : Int)) (cond (!(a2.toList == bE.toList)) false (cond (sKeyOk a1) (decide (((a2.size : Nat) : Int) ≤ (20 : Int))) false)) (cond (sKeyOk a1) (decide (((a2.size : Nat) : Int) ≤ (20 : Int))) false)))
noncomputable abbrev e_sl7Op (r : Bool) : AV × List AObj := ((.t true .bool r), [])
noncomputable abbrev F_sl7Op (r : Bool) := some (e_sl7Op r)
noncomputable abbrev g_sl7Op : pshsDen P_sl7Op → AV × List AObj := fun d => e_sl7Op (sl7Op d.1.1 d.1.2.1 d.1.2.2.1)
noncomputable def q_sl7Op (a0 : Int) (a1 : ByteArray) (a2 : ByteArray) : Bool := okS a1
noncomputable abbrev pre_sl7Op : pshsDen P_sl7Op → Bool := fun d => q_sl7Op d.1.1 d.1.2.1 d.1.2.2.1
theorem runA_sl7Op (a0 : Int) (a1 : ByteArray) (a2 : ByteArray) (hp : q_sl7Op a0 a1 a2 = true) : runP true Try.prog tt S17 QF17 (fun _ _ => none) Try.f118 (argsMk P_sl7Op ((a0, (a1, (a2, ()))), ())) = some (g_sl7Op ((a0, (a1, (a2, ()))), ())) := by
  unfold q_sl7Op at hp
  refine Eq.trans (b := (cond (!(sl1In a0 (1 : Int) (3 : Int))) (some (e_sl7Op false)) (cond (a0 == (2 : Int)) (cond (!(a2.toList == (⟨#[]⟩ : ByteArray).toList)) (some (e_sl7Op false)) (cond (q_sKeyOk a1) (cond (sKeyOk a1) (some (e_sl7Op (decide (((a2.size : Nat) : Int) ≤ (20 : Int))))) (some (e_sl7Op false))) none)) (cond (q_sKeyOk a1) (cond (sKeyOk a1) (some (e_sl7Op (decide (((a2.size : Nat) : Int) ≤ (20 : Int))))) (some (e_sl7Op false))) none)))) (by kernel_rfl) ?_
  exact (cnd (F := F_sl7Op) (fun _h => rfl) (fun _h => (cnd (F := F_sl7Op) (fun _h => (cnd (F := F_sl7Op) (fun _h => rfl) (fun _h => (cndT (by first | rfl | decide | exact hp | (simp only [Bool.and_eq_true] at hp; simp only [hp]; done) | (simp [*]; done) | (simp [okL] at hp; simp [okL, MAXB]; omega) | (simp_all; done) | (simp at *; omega)) (fun _h => (cnd (F := F_sl7Op) (fun _h => rfl) (fun _h => rfl))))))) (fun _h => (cndT (by first | rfl | decide | exact hp | (simp only [Bool.and_eq_true] at hp; simp only [hp]; done) | (simp [*]; done) | (simp [okL] at hp; simp [okL, MAXB]; omega) | (simp_all; done) | (simp at *; omega)) (fun _h => (cnd (F := F_sl7Op) (fun _h => rfl) (fun _h => rfl))))))))
theorem run_sl7Op : ∀ d, pre_sl7Op d = true → runP true Try.prog tt S17 QF17 (fun _ _ => none) Try.f118 (argsMk P_sl7Op d) = some (g_sl7Op d) := fun d hp => runA_sl7Op d.1.1 d.1.2.1 d.1.2.2.1 hp
theorem c_sl7Op : PContract Try.prog 118 (sumOf P_sl7Op pre_sl7Op g_sl7Op) := PContract.of_data true G17 (fn := Try.f118) (by kernel_rfl) (L := fun _ _ => none) (by rw [show loopsIn 0 (bodyOf Try.f118) = [] by kernel_rfl]; simp) P_sl7Op pre_sl7Op g_sl7Op run_sl7Op
noncomputable def S18 : Tab := Tab.add S17 118 (lift (sumOf P_sl7Op pre_sl7Op g_sl7Op))
noncomputable def QF18 : FuncId → Bool := qadd QF17 118
theorem G18 : Good Try.prog tt S18 QF18 := G17.addQ c_sl7Op ⟨Try.f118, by kernel_rfl, by kernel_rfl, by kernel_rfl⟩ (fun _ => rfl)

/-! 73 loop.example/g00244/spec.OpsOk -/
noncomputable abbrev jS33 : List Sh := .junk :: .junk :: .junk :: .junk :: .junk :: .junk :: .junk :: jS26
noncomputable abbrev jS34 : List Sh := .junk :: jS33
noncomputable abbrev jS36 : List Sh := .junk :: .junk :: jS34
noncomputable abbrev u35 := ((), (), (), (), (), (), (), (), u27)
noncomputable abbrev u34 := ((), (), (), (), (), (), (), u27)
noncomputable abbrev u37 := ((), (), u35)
noncomputable abbrev jA34 : List AV := .junk :: .junk :: .junk :: .junk :: .junk :: .junk :: .junk :: .junk :: .junk :: .junk :: .junk :: .junk :: .junk :: .junk :: .junk :: .junk :: .junk :: .junk :: .junk :: .junk :: .junk :: .junk :: .junk :: .junk :: .junk :: .junk :: .junk :: .junk :: .junk :: .junk :: .junk :: .junk :: .junk :: .junk :: []
noncomputable abbrev jA33 : List AV := .junk :: .junk :: .junk :: .junk :: .junk :: .junk :: .junk :: .junk :: .junk :: .junk :: .junk :: .junk :: .junk :: .junk :: .junk :: .junk :: .junk :: .junk :: .junk :: .junk :: .junk :: .junk :: .junk :: .junk :: .junk :: .junk :: .junk :: .junk :: .junk :: .junk :: .junk :: .junk :: .junk :: []
noncomputable abbrev jA36 : List AV := .junk :: .junk :: jA34
noncomputable def sOpAt (l : LIBBe) (i : Nat) : Bool := sl7Op (l.getD i dOp).1 (l.getD i dOp).2.1 (l.getD i dOp).2.2 && (decide (i = 0) || Op.bytesLess (l.getD (i - 1) dOp).2.1.toList (l.getD i dOp).2.1.toList)
noncomputable abbrev P_sOpsOk : List PSh := [.t t_spiptt]
noncomputable abbrev S_sOpsOk_0 : SS := ⟨(.t false t_spiptt :: .junk :: .junk :: .t true (.int .i64) :: jS33), []⟩
noncomputable abbrev E_sOpsOk_0_0 : SS := ⟨(.junk :: .junk :: .t true .bool :: jS34), []⟩
noncomputable abbrev E_sOpsOk_0_1 : SS := ⟨(.t false t_spiptt :: jS36), []⟩
noncomputable def st_sOpsOk_0 (x0 : LIBBe) (x3 : Int) : RT S_sOpsOk_0.den := (.br (decide (x3 < ((x0.length : Nat) : Int))) (.br (decide (0 ≤ x3 ∧ x3 < ((x0.length : Nat) : Int))) (.br (q_sl7Op ((x0.getD x3.toNat ((0 : Int), (bE, bE))).1) (((x0.getD x3.toNat ((0 : Int), (bE, bE))).2).1) (((x0.getD x3.toNat ((0 : Int), (bE, bE))).2).2)) (.br (!(sl7Op ((x0.getD x3.toNat ((0 : Int), (bE, bE))).1) (((x0.getD x3.toNat ((0 : Int), (bE, bE))).2).1) (((x0.getD x3.toNat ((0 : Int), (bE, bE))).2).2))) (.done .ret E_sOpsOk_0_0 (((), (), false, u35), ())) (.br (decide (x3 > (0 : Int))) (.br (decide (0 ≤ (IntKind.wrap .i64 (x3 - (1 : Int))) ∧ (IntKind.wrap .i64 (x3 - (1 : Int))) < ((x0.length : Nat) : Int))) (.br (decide (0 ≤ x3 ∧ x3 < ((x0.length : Nat) : Int))) (.br (!(Op.bytesLess (((x0.getD ((IntKind.wrap .i64 (x3 - (1 : Int))).toNat) ((0 : Int), (bE, bE))).2).1).toList (((x0.getD x3.toNat ((0 : Int), (bE, bE))).2).1).toList)) (.done .ret E_sOpsOk_0_0 (((), (), false, u35), ())) (.next ((x0, (), (), IntKind.wrap .i64 (x3 + (1 : Int)), u34), ()))) .fail) .fail) (.next ((x0, (), (), IntKind.wrap .i64 (x3 + (1 : Int)), u34), ())))) .fail) .fail) (.done (.exit 0) E_sOpsOk_0_1 ((x0, u37), ())))
noncomputable def T_sOpsOk_0 (x0 : LIBBe) (x3 : Int) : CT := (.br (decide (0 ≤ x3) && okOps x0) (.br (allF (sOpAt x0) (x0.length - x3.toNat) x3.toNat) (.done (.exit 0) E_sOpsOk_0_1 ((x0, u37), ())) (.done .ret E_sOpsOk_0_0 (((), (), false, u35), ()))) .fail)
noncomputable abbrev sp_sOpsOk_0 : S_sOpsOk_0.den → RT S_sOpsOk_0.den := fun d => st_sOpsOk_0 d.1.1 d.1.2.2.2.1
noncomputable abbrev pk_sOpsOk_0 (x0 : LIBBe) (x3 : Int) : S_sOpsOk_0.den := ((x0, (), (), x3, u34), ())
noncomputable def body_sOpsOk_0 : Code := ((loopsIn 0 (bodyOf Try.f73)).getD 0 (0, .skip)).2
theorem R_sOpsOk_0 (x0 : LIBBe) (x3 : Int) : (T_sOpsOk_0 x0 x3).val (D := S_sOpsOk_0.den) = .fail ∨ Runs sp_sOpsOk_0 (pk_sOpsOk_0 x0 x3) (T_sOpsOk_0 x0 x3).val := by
  cases hc : (decide (0 ≤ x3) && okOps x0) with
  | false => left; simp only [T_sOpsOk_0, CT.val, hc, cond_false]
  | true =>
    right
    simp only [T_sOpsOk_0, CT.val, hc, cond_true]
    simp only [Bool.and_eq_true, decide_eq_true_eq] at hc
    obtain ⟨i, rfl⟩ := Int.eq_ofNat_of_zero_le hc.1
    have hs := okOps_len hc.2
    simp only [Int.toNat_natCast]
    refine Runs.scan (fun j => pk_sOpsOk_0 x0 (j : Int)) (x0.length) (sOpAt x0) (fun i hi => ?_) (fun i hi => ?_) ⟨_, _, _, rfl, by simp⟩ ⟨_, _, _, rfl, by simp⟩ _ _ rfl
    · 
      have h0a : decide ((i : Int) < ((x0.length : Nat) : Int)) = true := decide_eq_true (by omega)
      have h0b : decide (0 ≤ (i : Int) ∧ (i : Int) < ((x0.length : Nat) : Int)) = true := decide_eq_true (by omega)
      simp only [sp_sOpsOk_0, st_sOpsOk_0, RT.val, h0a, h0b, cond_true, wrapS i (by omega), Int.toNat_natCast]
      have hq : q_sl7Op (x0.getD i dOp).1 (x0.getD i dOp).2.1 (x0.getD i dOp).2.2 = true := (okOps_at hc.2 i hi).1
      simp only [dOp] at hq
      simp only [hq, cond_true, sOpAt, dOp]
      cases sl7Op (x0.getD i ((0 : Int), ((⟨#[]⟩ : ByteArray), (⟨#[]⟩ : ByteArray)))).1 (x0.getD i ((0 : Int), ((⟨#[]⟩ : ByteArray), (⟨#[]⟩ : ByteArray)))).2.1 (x0.getD i ((0 : Int), ((⟨#[]⟩ : ByteArray), (⟨#[]⟩ : ByteArray)))).2.2 with
      | false => rfl
      | true =>
        cases i with
        | zero => rfl
        | succ i =>
          have h3 : decide (((i + 1 : Nat) : Int) > 0) = true := decide_eq_true (by omega)
          have h4 : IntKind.wrap .i64 (((i + 1 : Nat) : Int) - 1) = (i : Int) := by have := wrap64 (n := ((i + 1 : Nat) : Int) - 1) (by omega) (by omega); omega
          have h5 : decide (0 ≤ (i : Int) ∧ (i : Int) < ((x0.length : Nat) : Int)) = true := decide_eq_true (by omega)
          have h6 : decide (i + 1 = 0) = false := by simp
          simp only [h3, h4, h5, h6, cond_true, Bool.true_and, Bool.false_or, Int.toNat_natCast, Nat.add_sub_cancel, Bool.not_true, cond_false]
          cases Op.bytesLess (x0.getD i ((0 : Int), ((⟨#[]⟩ : ByteArray), (⟨#[]⟩ : ByteArray)))).2.1.toList (x0.getD (i + 1) ((0 : Int), ((⟨#[]⟩ : ByteArray), (⟨#[]⟩ : ByteArray)))).2.1.toList <;> rfl
    · have h1 : decide ((i : Int) < ((x0.length : Nat) : Int)) = false := decide_eq_false (by omega)
      simp only [sp_sOpsOk_0, st_sOpsOk_0, RT.val, h1, cond_false]
noncomputable def ox_sOpsOk_0 (x0 : LIBBe) (x3 : Int) : Option (Ex × St) := (cond (decide (x3 < ((x0.length : Nat) : Int))) (cond (decide (0 ≤ x3 ∧ x3 < ((x0.length : Nat) : Int))) (cond (q_sl7Op ((x0.getD x3.toNat ((0 : Int), (bE, bE))).1) (((x0.getD x3.toNat ((0 : Int), (bE, bE))).2).1) (((x0.getD x3.toNat ((0 : Int), (bE, bE))).2).2)) (cond (!(sl7Op ((x0.getD x3.toNat ((0 : Int), (bE, bE))).1) (((x0.getD x3.toNat ((0 : Int), (bE, bE))).2).1) (((x0.getD x3.toNat ((0 : Int), (bE, bE))).2).2))) (some (.ret, (⟨(.junk :: .junk :: (.t true .bool false) :: jA34), [], 0, []⟩ : St))) (cond (decide (x3 > (0 : Int))) (cond (decide (0 ≤ (IntKind.wrap .i64 (x3 - (1 : Int))) ∧ (IntKind.wrap .i64 (x3 - (1 : Int))) < ((x0.length : Nat) : Int))) (cond (decide (0 ≤ x3 ∧ x3 < ((x0.length : Nat) : Int))) (cond (!(Op.bytesLess (((x0.getD ((IntKind.wrap .i64 (x3 - (1 : Int))).toNat) ((0 : Int), (bE, bE))).2).1).toList (((x0.getD x3.toNat ((0 : Int), (bE, bE))).2).1).toList)) (some (.ret, (⟨(.junk :: .junk :: (.t true .bool false) :: jA34), [], 0, []⟩ : St))) (some (.normal, (⟨((.t false t_spiptt x0) :: .junk :: .junk :: (.t true (.int .i64) (IntKind.wrap .i64 (x3 + (1 : Int)))) :: jA33), [], 0, []⟩ : St)))) none) none) (some (.normal, (⟨((.t false t_spiptt x0) :: .junk :: .junk :: (.t true (.int .i64) (IntKind.wrap .i64 (x3 + (1 : Int)))) :: jA33), [], 0, []⟩ : St))))) none) none) (some ((.exit 0), (⟨((.t false t_spiptt x0) :: jA36), [], 0, []⟩ : St))))
theorem rdA_sOpsOk_0 : ∀ d, execC Try.prog tt S18 QF18 (fun _ _ => none) 0 body_sOpsOk_0 (S_sOpsOk_0.st d 0 []) (fun e s' => some (e, S_sOpsOk_0.cutE (kepts [2] [(0, [0])]) e s')) = ox_sOpsOk_0 d.1.1 d.1.2.2.2.1 := by
  intro d
  kernel_rfl
theorem rdB_sOpsOk_0 : ∀ d : S_sOpsOk_0.den, ox_sOpsOk_0 d.1.1 d.1.2.2.2.1 = (sp_sOpsOk_0 d).opt 0 [] := by
  intro d
  kernel_rfl
theorem rd_sOpsOk_0 : ∀ d, execC Try.prog tt S18 QF18 (fun _ _ => none) 0 body_sOpsOk_0 (S_sOpsOk_0.st d 0 []) (fun e s' => some (e, S_sOpsOk_0.cutE (kepts [2] [(0, [0])]) e s')) = (sp_sOpsOk_0 d).opt 0 [] := fun d => (rdA_sOpsOk_0 d).trans (rdB_sOpsOk_0 d)
noncomputable abbrev say_sOpsOk_0 : St → Option Tree := S_sOpsOk_0.say 0 [] [] (fun d => T_sOpsOk_0 d.1.1 d.1.2.2.2.1)
theorem lw_sOpsOk_0 : LoopWp Try.prog say_sOpsOk_0 body_sOpsOk_0 := SS.wp G18 (fun _ _ => none) (by rw [show loopsIn 0 body_sOpsOk_0 = [] by kernel_rfl]; simp) S_sOpsOk_0 0 [] (kepts [2] [(0, [0])]) [] sp_sOpsOk_0 rd_sOpsOk_0 _ (fun d => R_sOpsOk_0 d.1.1 d.1.2.2.2.1)
noncomputable def sOpsOk (a0 : LIBBe) : Bool := (cond (allF (sOpAt a0) (a0.length - (0 : Int).toNat) (0 : Int).toNat) (sl1In ((a0.length : Nat) : Int) (1 : Int) (8 : Int)) false)
noncomputable abbrev e_sOpsOk (r : Bool) : AV × List AObj := ((.t true .bool r), [])
noncomputable abbrev F_sOpsOk (r : Bool) := some (e_sOpsOk r)
noncomputable abbrev g_sOpsOk : pshsDen P_sOpsOk → AV × List AObj := fun d => e_sOpsOk (sOpsOk d.1)
noncomputable def q_sOpsOk (a0 : LIBBe) : Bool := okOps a0
noncomputable abbrev pre_sOpsOk : pshsDen P_sOpsOk → Bool := fun d => q_sOpsOk d.1
theorem runA_sOpsOk (a0 : LIBBe) (hp : q_sOpsOk a0 = true) : runP true Try.prog tt S18 QF18 (fun b => match b with | 0 => say_sOpsOk_0 | _ => fun _ => none) Try.f73 (argsMk P_sOpsOk (a0, ())) = some (g_sOpsOk (a0, ())) := by
  unfold q_sOpsOk at hp
  refine Eq.trans (b := (cond (decide (0 ≤ (0 : Int)) && okOps a0) (cond (allF (sOpAt a0) (a0.length - (0 : Int).toNat) (0 : Int).toNat) (some (e_sOpsOk (sl1In ((a0.length : Nat) : Int) (1 : Int) (8 : Int)))) (some (e_sOpsOk false))) none)) (by kernel_rfl) ?_
  exact (cndT (by first | rfl | decide | exact hp | (simp only [Bool.and_eq_true] at hp; simp only [hp]; done) | (simp [*]; done) | (simp [okL] at hp; simp [okL, MAXB]; omega) | (simp_all; done) | (simp at *; omega)) (fun _h => (cnd (F := F_sOpsOk) (fun _h => rfl) (fun _h => rfl))))
theorem run_sOpsOk : ∀ d, pre_sOpsOk d = true → runP true Try.prog tt S18 QF18 (fun b => match b with | 0 => say_sOpsOk_0 | _ => fun _ => none) Try.f73 (argsMk P_sOpsOk d) = some (g_sOpsOk d) := fun d hp => runA_sOpsOk d.1 hp
theorem c_sOpsOk : PContract Try.prog 73 (sumOf P_sOpsOk pre_sOpsOk g_sOpsOk) := PContract.of_data true G18 (fn := Try.f73) (by kernel_rfl) (L := fun b => match b with | 0 => say_sOpsOk_0 | _ => fun _ => none) (by rw [show loopsIn 0 (bodyOf Try.f73) = [(0, body_sOpsOk_0)] by kernel_rfl]; intro p hp; simp only [List.mem_singleton] at hp; subst hp; exact lw_sOpsOk_0) P_sOpsOk pre_sOpsOk g_sOpsOk run_sOpsOk
noncomputable def S19 : Tab := Tab.add S18 73 (lift (sumOf P_sOpsOk pre_sOpsOk g_sOpsOk))
noncomputable def QF19 : FuncId → Bool := qadd QF18 73
theorem G19 : Good Try.prog tt S19 QF19 := G18.addQ c_sOpsOk ⟨Try.f73, by kernel_rfl, by kernel_rfl, by kernel_rfl⟩ (fun _ => rfl)

/-! 26 loop.example/g00244/spec.RecOk -/
noncomputable abbrev P_sRecOk : List PSh := [.agg [(.int .i64), (.int .i64), t_spiptt]]
noncomputable def sRecOk (a0 : Int) (a1 : Int) (a2 : LIBBe) : Bool := (cond (!(sl1In a1 (1 : Int) (1000000 : Int))) false (cond (a0 == (1 : Int)) (sOpsOk a2) (cond (a0 == (2 : Int)) (((a2.length : Nat) : Int) == (0 : Int)) (cond (a0 == (3 : Int)) (((a2.length : Nat) : Int) == (0 : Int)) false))))
noncomputable abbrev e_sRecOk (r : Bool) : AV × List AObj := ((.t true .bool r), [])
noncomputable abbrev F_sRecOk (r : Bool) := some (e_sRecOk r)
noncomputable abbrev g_sRecOk : pshsDen P_sRecOk → AV × List AObj := fun d => e_sRecOk (sRecOk d.1.1 d.1.2.1 d.1.2.2.1)
noncomputable def q_sRecOk (a0 : Int) (a1 : Int) (a2 : LIBBe) : Bool := okOps a2
noncomputable abbrev pre_sRecOk : pshsDen P_sRecOk → Bool := fun d => q_sRecOk d.1.1 d.1.2.1 d.1.2.2.1
theorem runA_sRecOk (a0 : Int) (a1 : Int) (a2 : LIBBe) (hp : q_sRecOk a0 a1 a2 = true) : runP true Try.prog tt S19 QF19 (fun _ _ => none) Try.f26 (argsMk P_sRecOk ((a0, (a1, (a2, ()))), ())) = some (g_sRecOk ((a0, (a1, (a2, ()))), ())) := by
  unfold q_sRecOk at hp
  refine Eq.trans (b := (cond (!(sl1In a1 (1 : Int) (1000000 : Int))) (some (e_sRecOk false)) (cond (a0 == (1 : Int)) (cond (q_sOpsOk a2) (some (e_sRecOk (sOpsOk a2))) none) (cond (a0 == (2 : Int)) (some (e_sRecOk (((a2.length : Nat) : Int) == (0 : Int)))) (cond (a0 == (3 : Int)) (some (e_sRecOk (((a2.length : Nat) : Int) == (0 : Int)))) (some (e_sRecOk false))))))) (by kernel_rfl) ?_
  exact (cnd (F := F_sRecOk) (fun _h => rfl) (fun _h => (cnd (F := F_sRecOk) (fun _h => (cndT (by first | rfl | decide | exact hp | (simp only [Bool.and_eq_true] at hp; simp only [hp]; done) | (simp [*]; done) | (simp [okL] at hp; simp [okL, MAXB]; omega) | (simp_all; done) | (simp at *; omega)) (fun _h => rfl))) (fun _h => (cnd (F := F_sRecOk) (fun _h => rfl) (fun _h => (cnd (F := F_sRecOk) (fun _h => rfl) (fun _h => rfl))))))))
theorem run_sRecOk : ∀ d, pre_sRecOk d = true → runP true Try.prog tt S19 QF19 (fun _ _ => none) Try.f26 (argsMk P_sRecOk d) = some (g_sRecOk d) := fun d hp => runA_sRecOk d.1.1 d.1.2.1 d.1.2.2.1 hp
theorem c_sRecOk : PContract Try.prog 26 (sumOf P_sRecOk pre_sRecOk g_sRecOk) := PContract.of_data true G19 (fn := Try.f26) (by kernel_rfl) (L := fun _ _ => none) (by rw [show loopsIn 0 (bodyOf Try.f26) = [] by kernel_rfl]; simp) P_sRecOk pre_sRecOk g_sRecOk run_sRecOk
noncomputable def S20 : Tab := Tab.add S19 26 (lift (sumOf P_sRecOk pre_sRecOk g_sRecOk))
noncomputable def QF20 : FuncId → Bool := qadd QF19 26
theorem G20 : Good Try.prog tt S20 QF20 := G19.addQ c_sRecOk ⟨Try.f26, by kernel_rfl, by kernel_rfl, by kernel_rfl⟩ (fun _ => rfl)

/-! 125 loop.example/g00244/spec.l7Has -/
noncomputable abbrev t_si : Ty := .sl (.int .i64)
noncomputable abbrev jS12 : List Sh := .junk :: .junk :: .junk :: .junk :: .junk :: .junk :: .junk :: .junk :: .junk :: .junk :: .junk :: .junk :: []
noncomputable abbrev jS13 : List Sh := .junk :: jS12
noncomputable abbrev jS17 : List Sh := .junk :: .junk :: jS15
noncomputable abbrev u14 := ((), (), (), (), (), (), (), (), (), (), (), (), (), ())
noncomputable abbrev u13 := ((), (), (), (), (), (), (), (), (), (), (), (), ())
noncomputable abbrev P_sl7Has : List PSh := [.t t_si, .t (.int .i64)]
noncomputable abbrev S_sl7Has_0 : SS := ⟨(.t false t_si :: .t true (.int .i64) :: .junk :: .junk :: .junk :: .t true (.int .i64) :: jS12), []⟩
noncomputable abbrev E_sl7Has_0_0 : SS := ⟨(.junk :: .junk :: .junk :: .junk :: .t true .bool :: jS13), []⟩
noncomputable abbrev E_sl7Has_0_1 : SS := ⟨(.junk :: jS17), []⟩
noncomputable def st_sl7Has_0 (x0 : List Int) (x1 : Int) (x5 : Int) : RT S_sl7Has_0.den := (.br (decide (x5 < ((x0.length : Nat) : Int))) (.br (decide (0 ≤ x5 ∧ x5 < ((x0.length : Nat) : Int))) (.br ((x0.getD x5.toNat (0 : Int)) == x1) (.done .ret E_sl7Has_0_0 (((), (), (), (), true, u14), ())) (.next ((x0, x1, (), (), (), IntKind.wrap .i64 (x5 + (1 : Int)), u13), ()))) .fail) (.done (.exit 0) E_sl7Has_0_1 ((u19), ())))
noncomputable abbrev V_sl7Has_0 := (List Int) × (Int) × (Int)
noncomputable abbrev A_sl7Has_0 := Nat × (Bool)
noncomputable def fl_sl7Has_0 : A_sl7Has_0 := (99, (false : Bool))
noncomputable def ss_sl7Has_0 (x0 : List Int) (x1 : Int) (x5 : Int) : V_sl7Has_0 ⊕ A_sl7Has_0 := (cond (decide (x5 < ((x0.length : Nat) : Int))) (cond (decide (0 ≤ x5 ∧ x5 < ((x0.length : Nat) : Int))) (cond ((x0.getD x5.toNat (0 : Int)) == x1) (.inr (0, true)) (.inl (x0, x1, IntKind.wrap .i64 (x5 + (1 : Int))))) (.inr fl_sl7Has_0)) (.inr (1, (false : Bool))))
noncomputable def it_sl7Has_0 (x0 : List Int) (x1 : Int) (x5 : Int) : A_sl7Has_0 := itX (fun v : V_sl7Has_0 => ss_sl7Has_0 v.1 v.2.1 v.2.2) fl_sl7Has_0 (x0, x1, x5)
noncomputable def ct_sl7Has_0 (a : A_sl7Has_0) : CT := (.br (a.1 == 0) (.done .ret E_sl7Has_0_0 (((), (), (), (), a.2, u14), ())) (.br (a.1 == 1) (.done (.exit 0) E_sl7Has_0_1 ((u19), ())) .fail))
noncomputable def T_sl7Has_0 (x0 : List Int) (x1 : Int) (x5 : Int) : CT := ct_sl7Has_0 (it_sl7Has_0 x0 x1 x5)
noncomputable abbrev sp_sl7Has_0 : S_sl7Has_0.den → RT S_sl7Has_0.den := fun d => st_sl7Has_0 d.1.1 d.1.2.1 d.1.2.2.2.2.2.1
noncomputable abbrev pk_sl7Has_0 (x0 : List Int) (x1 : Int) (x5 : Int) : S_sl7Has_0.den := ((x0, x1, (), (), (), x5, u13), ())
noncomputable def body_sl7Has_0 : Code := ((loopsIn 0 (bodyOf Try.f125)).getD 0 (0, .skip)).2
noncomputable abbrev pv_sl7Has_0 (v : V_sl7Has_0) : S_sl7Has_0.den := pk_sl7Has_0 v.1 v.2.1 v.2.2
theorem R_sl7Has_0 (x0 : List Int) (x1 : Int) (x5 : Int) : (T_sl7Has_0 x0 x1 x5).val (D := S_sl7Has_0.den) = .fail ∨ Runs sp_sl7Has_0 (pk_sl7Has_0 x0 x1 x5) (T_sl7Has_0 x0 x1 x5).val := Runs.ofIt (step := sp_sl7Has_0) pv_sl7Has_0 (ct := ct_sl7Has_0) rfl (fun v => ((relB (relB (relB rfl rfl) rfl) rfl) : (st_sl7Has_0 v.1 v.2.1 v.2.2).val = relS pv_sl7Has_0 ct_sl7Has_0 (ss_sl7Has_0 v.1 v.2.1 v.2.2))) (fun a => ((cendB (cendD (by simp)) (cendB (cendD (by simp)) cendF)) : CEnd _ (ct_sl7Has_0 a))) (x0, x1, x5)
theorem rd_sl7Has_0 : ∀ d, execC Try.prog tt S20 QF20 (fun _ _ => none) 0 body_sl7Has_0 (S_sl7Has_0.st d 0 []) (fun e s' => some (e, S_sl7Has_0.cutE (kepts [4] [(0, [])]) e s')) = (sp_sl7Has_0 d).opt 0 [] := by
  intro d
  kernel_rfl
noncomputable abbrev say_sl7Has_0 : St → Option Tree := S_sl7Has_0.say 0 [] [] (fun d => T_sl7Has_0 d.1.1 d.1.2.1 d.1.2.2.2.2.2.1)
theorem lw_sl7Has_0 : LoopWp Try.prog say_sl7Has_0 body_sl7Has_0 := SS.wp G20 (fun _ _ => none) (by rw [show loopsIn 0 body_sl7Has_0 = [] by kernel_rfl]; simp) S_sl7Has_0 0 [] (kepts [4] [(0, [])]) [] sp_sl7Has_0 rd_sl7Has_0 _ (fun d => R_sl7Has_0 d.1.1 d.1.2.1 d.1.2.2.2.2.2.1)
noncomputable def sl7Has (a0 : List Int) (a1 : Int) : Bool := (cond ((it_sl7Has_0 a0 a1 (0 : Int)).1 == 0) ((it_sl7Has_0 a0 a1 (0 : Int)).2) false)
noncomputable abbrev e_sl7Has (r : Bool) : AV × List AObj := ((.t true .bool r), [])
noncomputable abbrev F_sl7Has (r : Bool) := some (e_sl7Has r)
noncomputable abbrev g_sl7Has : pshsDen P_sl7Has → AV × List AObj := fun d => e_sl7Has (sl7Has d.1 d.2.1)
noncomputable def q_sl7Has (a0 : List Int) (a1 : Int) : Bool := cond ((it_sl7Has_0 a0 a1 (0 : Int)).1 == 0) true ((it_sl7Has_0 a0 a1 (0 : Int)).1 == 1)
noncomputable abbrev pre_sl7Has : pshsDen P_sl7Has → Bool := fun d => q_sl7Has d.1 d.2.1
theorem runA_sl7Has (a0 : List Int) (a1 : Int) (hp : q_sl7Has a0 a1 = true) : runP true Try.prog tt S20 QF20 (fun b => match b with | 0 => say_sl7Has_0 | _ => fun _ => none) Try.f125 (argsMk P_sl7Has (a0, (a1, ()))) = some (g_sl7Has (a0, (a1, ()))) := by
  unfold q_sl7Has at hp
  refine Eq.trans (b := (cond ((it_sl7Has_0 a0 a1 (0 : Int)).1 == 0) (some (e_sl7Has ((it_sl7Has_0 a0 a1 (0 : Int)).2))) (cond ((it_sl7Has_0 a0 a1 (0 : Int)).1 == 1) (some (e_sl7Has false)) none))) (by kernel_rfl) ?_
  exact (cndQ (F := F_sl7Has) hp (fun hp => rfl) (fun hp => (cndT hp fun _h => rfl)))
theorem run_sl7Has : ∀ d, pre_sl7Has d = true → runP true Try.prog tt S20 QF20 (fun b => match b with | 0 => say_sl7Has_0 | _ => fun _ => none) Try.f125 (argsMk P_sl7Has d) = some (g_sl7Has d) := fun d hp => runA_sl7Has d.1 d.2.1 hp
theorem c_sl7Has : PContract Try.prog 125 (sumOf P_sl7Has pre_sl7Has g_sl7Has) := PContract.of_data true G20 (fn := Try.f125) (by kernel_rfl) (L := fun b => match b with | 0 => say_sl7Has_0 | _ => fun _ => none) (by rw [show loopsIn 0 (bodyOf Try.f125) = [(0, body_sl7Has_0)] by kernel_rfl]; intro p hp; simp only [List.mem_singleton] at hp; subst hp; exact lw_sl7Has_0) P_sl7Has pre_sl7Has g_sl7Has run_sl7Has
noncomputable def S21 : Tab := Tab.add S20 125 (lift (sumOf P_sl7Has pre_sl7Has g_sl7Has))
noncomputable def QF21 : FuncId → Bool := qadd QF20 125
theorem G21 : Good Try.prog tt S21 QF21 := G20.addQ c_sl7Has ⟨Try.f125, by kernel_rfl, by kernel_rfl, by kernel_rfl⟩ (fun _ => rfl)

/-! 126 loop.example/g00244/spec.l8Locked -/
noncomputable abbrev jS37 : List Sh := .junk :: jS36
noncomputable abbrev jS40 : List Sh := .junk :: .junk :: .junk :: jS37
noncomputable abbrev jS38 : List Sh := .junk :: jS37
noncomputable abbrev u41 := ((), (), (), (), u37)
noncomputable abbrev u38 := ((), u37)
noncomputable abbrev u39 := ((), u38)
noncomputable abbrev jA40 : List AV := .junk :: .junk :: .junk :: .junk :: jA36
noncomputable abbrev jA37 : List AV := .junk :: jA36
noncomputable abbrev jA38 : List AV := .junk :: jA37
noncomputable abbrev jS39 : List Sh := .junk :: jS38
noncomputable abbrev u40 := ((), u39)
noncomputable abbrev jA39 : List AV := .junk :: jA38
noncomputable abbrev jS44 : List Sh := .junk :: .junk :: .junk :: .junk :: jS40
noncomputable abbrev u46 := ((), (), (), (), (), u41)
noncomputable abbrev jA44 : List AV := .junk :: .junk :: .junk :: .junk :: jA40
noncomputable abbrev P_sl8Locked : List PSh := [.t t_spipispiptt, .t t_spiptt]
noncomputable def body_sl8Locked_0 : Code := ((loopsIn 0 (bodyOf Try.f126)).getD 0 (0, .skip)).2
noncomputable def body_sl8Locked_1 : Code := ((loopsIn 0 body_sl8Locked_0).getD 0 (0, .skip)).2
noncomputable def body_sl8Locked_2 : Code := ((loopsIn 2 body_sl8Locked_1).getD 0 (0, .skip)).2
noncomputable abbrev S_sl8Locked_2 : SS := ⟨(.t false t_spipispiptt :: .t false t_spiptt :: .junk :: .junk :: .junk :: .t true (.int .i64) :: .t true (.int .i64) :: .t true (.int .i64) :: jS37), []⟩
noncomputable abbrev E_sl8Locked_2_0 : SS := ⟨(.junk :: .junk :: .junk :: .junk :: .t true .bool :: jS40), []⟩
noncomputable abbrev E_sl8Locked_2_1 : SS := ⟨(.t false t_spipispiptt :: .t false t_spiptt :: .junk :: .junk :: .junk :: .t true (.int .i64) :: .t true (.int .i64) :: jS38), []⟩
noncomputable def st_sl8Locked_2 (x0 : LIILIBBee) (x1 : LIBBe) (x5 : Int) (x6 : Int) (x7 : Int) : RT S_sl8Locked_2.den := (.br (decide (x7 < ((x1.length : Nat) : Int))) (.br (decide (0 ≤ x5 ∧ x5 < ((x0.length : Nat) : Int))) (.br (decide (0 ≤ x6 ∧ x6 < (((((x0.getD x5.toNat ((0 : Int), ((0 : Int), []))).2).2).length : Nat) : Int))) (.br (decide (0 ≤ x7 ∧ x7 < ((x1.length : Nat) : Int))) (.br (((((((x0.getD x5.toNat ((0 : Int), ((0 : Int), []))).2).2).getD x6.toNat ((0 : Int), (bE, bE))).2).1).toList == (((x1.getD x7.toNat ((0 : Int), (bE, bE))).2).1).toList) (.done .ret E_sl8Locked_2_0 (((), (), (), (), true, u41), ())) (.next ((x0, x1, (), (), (), x5, x6, IntKind.wrap .i64 (x7 + (1 : Int)), u38), ()))) .fail) .fail) .fail) (.done (.exit 4) E_sl8Locked_2_1 ((x0, x1, (), (), (), x5, x6, u39), ())))
noncomputable abbrev V_sl8Locked_2 := (LIILIBBee) × (LIBBe) × (Int) × (Int) × (Int)
noncomputable abbrev A_sl8Locked_2 := Nat × (Bool) × (LIILIBBee) × (LIBBe) × (Int) × (Int)
noncomputable def fl_sl8Locked_2 : A_sl8Locked_2 := (99, (false : Bool), ([] : LIILIBBee), ([] : LIBBe), ((0 : Int) : Int), ((0 : Int) : Int))
noncomputable def ss_sl8Locked_2 (x0 : LIILIBBee) (x1 : LIBBe) (x5 : Int) (x6 : Int) (x7 : Int) : V_sl8Locked_2 ⊕ A_sl8Locked_2 := (cond (decide (x7 < ((x1.length : Nat) : Int))) (cond (decide (0 ≤ x5 ∧ x5 < ((x0.length : Nat) : Int))) (cond (decide (0 ≤ x6 ∧ x6 < (((((x0.getD x5.toNat ((0 : Int), ((0 : Int), []))).2).2).length : Nat) : Int))) (cond (decide (0 ≤ x7 ∧ x7 < ((x1.length : Nat) : Int))) (cond (((((((x0.getD x5.toNat ((0 : Int), ((0 : Int), []))).2).2).getD x6.toNat ((0 : Int), (bE, bE))).2).1).toList == (((x1.getD x7.toNat ((0 : Int), (bE, bE))).2).1).toList) (.inr (0, true, ([] : LIILIBBee), ([] : LIBBe), ((0 : Int) : Int), ((0 : Int) : Int))) (.inl (x0, x1, x5, x6, IntKind.wrap .i64 (x7 + (1 : Int))))) (.inr fl_sl8Locked_2)) (.inr fl_sl8Locked_2)) (.inr fl_sl8Locked_2)) (.inr (1, (false : Bool), x0, x1, x5, x6)))
noncomputable def it_sl8Locked_2 (x0 : LIILIBBee) (x1 : LIBBe) (x5 : Int) (x6 : Int) (x7 : Int) : A_sl8Locked_2 := itX (fun v : V_sl8Locked_2 => ss_sl8Locked_2 v.1 v.2.1 v.2.2.1 v.2.2.2.1 v.2.2.2.2) fl_sl8Locked_2 (x0, x1, x5, x6, x7)
noncomputable def ct_sl8Locked_2 (a : A_sl8Locked_2) : CT := (.br (a.1 == 0) (.done .ret E_sl8Locked_2_0 (((), (), (), (), a.2.1, u41), ())) (.br (a.1 == 1) (.done (.exit 4) E_sl8Locked_2_1 ((a.2.2.1, a.2.2.2.1, (), (), (), a.2.2.2.2.1, a.2.2.2.2.2, u39), ())) .fail))
noncomputable def T_sl8Locked_2 (x0 : LIILIBBee) (x1 : LIBBe) (x5 : Int) (x6 : Int) (x7 : Int) : CT := ct_sl8Locked_2 (it_sl8Locked_2 x0 x1 x5 x6 x7)
noncomputable abbrev sp_sl8Locked_2 : S_sl8Locked_2.den → RT S_sl8Locked_2.den := fun d => st_sl8Locked_2 d.1.1 d.1.2.1 d.1.2.2.2.2.2.1 d.1.2.2.2.2.2.2.1 d.1.2.2.2.2.2.2.2.1
noncomputable abbrev pk_sl8Locked_2 (x0 : LIILIBBee) (x1 : LIBBe) (x5 : Int) (x6 : Int) (x7 : Int) : S_sl8Locked_2.den := ((x0, x1, (), (), (), x5, x6, x7, u38), ())
noncomputable abbrev pv_sl8Locked_2 (v : V_sl8Locked_2) : S_sl8Locked_2.den := pk_sl8Locked_2 v.1 v.2.1 v.2.2.1 v.2.2.2.1 v.2.2.2.2
theorem R_sl8Locked_2 (x0 : LIILIBBee) (x1 : LIBBe) (x5 : Int) (x6 : Int) (x7 : Int) : (T_sl8Locked_2 x0 x1 x5 x6 x7).val (D := S_sl8Locked_2.den) = .fail ∨ Runs sp_sl8Locked_2 (pk_sl8Locked_2 x0 x1 x5 x6 x7) (T_sl8Locked_2 x0 x1 x5 x6 x7).val := Runs.ofIt (step := sp_sl8Locked_2) pv_sl8Locked_2 (ct := ct_sl8Locked_2) rfl (fun v => ((relB (relB (relB (relB (relB rfl rfl) rfl) rfl) rfl) rfl) : (st_sl8Locked_2 v.1 v.2.1 v.2.2.1 v.2.2.2.1 v.2.2.2.2).val = relS pv_sl8Locked_2 ct_sl8Locked_2 (ss_sl8Locked_2 v.1 v.2.1 v.2.2.1 v.2.2.2.1 v.2.2.2.2))) (fun a => ((cendB (cendD (by simp)) (cendB (cendD (by simp)) cendF)) : CEnd _ (ct_sl8Locked_2 a))) (x0, x1, x5, x6, x7)
noncomputable def ox_sl8Locked_2 (x0 : LIILIBBee) (x1 : LIBBe) (x5 : Int) (x6 : Int) (x7 : Int) : Option (Ex × St) := (cond (decide (x7 < ((x1.length : Nat) : Int))) (cond (decide (0 ≤ x5 ∧ x5 < ((x0.length : Nat) : Int))) (cond (decide (0 ≤ x6 ∧ x6 < (((((x0.getD x5.toNat ((0 : Int), ((0 : Int), []))).2).2).length : Nat) : Int))) (cond (decide (0 ≤ x7 ∧ x7 < ((x1.length : Nat) : Int))) (cond (((((((x0.getD x5.toNat ((0 : Int), ((0 : Int), []))).2).2).getD x6.toNat ((0 : Int), (bE, bE))).2).1).toList == (((x1.getD x7.toNat ((0 : Int), (bE, bE))).2).1).toList) (some (.ret, (⟨(.junk :: .junk :: .junk :: .junk :: (.t true .bool true) :: jA40), [], 0, []⟩ : St))) (some (.normal, (⟨((.t false t_spipispiptt x0) :: (.t false t_spiptt x1) :: .junk :: .junk :: .junk :: (.t true (.int .i64) x5) :: (.t true (.int .i64) x6) :: (.t true (.int .i64) (IntKind.wrap .i64 (x7 + (1 : Int)))) :: jA37), [], 0, []⟩ : St)))) none) none) none) (some ((.exit 4), (⟨((.t false t_spipispiptt x0) :: (.t false t_spiptt x1) :: .junk :: .junk :: .junk :: (.t true (.int .i64) x5) :: (.t true (.int .i64) x6) :: jA38), [], 0, []⟩ : St))))
theorem rdA_sl8Locked_2 : ∀ d, execC Try.prog tt S21 QF21 (fun _ _ => none) 4 body_sl8Locked_2 (S_sl8Locked_2.st d 0 []) (fun e s' => some (e, S_sl8Locked_2.cutE (kepts [4] [(4, [0, 1, 5, 6])]) e s')) = ox_sl8Locked_2 d.1.1 d.1.2.1 d.1.2.2.2.2.2.1 d.1.2.2.2.2.2.2.1 d.1.2.2.2.2.2.2.2.1 := by
  intro d
  kernel_rfl
theorem rdB_sl8Locked_2 : ∀ d : S_sl8Locked_2.den, ox_sl8Locked_2 d.1.1 d.1.2.1 d.1.2.2.2.2.2.1 d.1.2.2.2.2.2.2.1 d.1.2.2.2.2.2.2.2.1 = (sp_sl8Locked_2 d).opt 0 [] := by
  intro d
  kernel_rfl
theorem rd_sl8Locked_2 : ∀ d, execC Try.prog tt S21 QF21 (fun _ _ => none) 4 body_sl8Locked_2 (S_sl8Locked_2.st d 0 []) (fun e s' => some (e, S_sl8Locked_2.cutE (kepts [4] [(4, [0, 1, 5, 6])]) e s')) = (sp_sl8Locked_2 d).opt 0 [] := fun d => (rdA_sl8Locked_2 d).trans (rdB_sl8Locked_2 d)
noncomputable abbrev say_sl8Locked_2 : St → Option Tree := S_sl8Locked_2.say 0 [] [] (fun d => T_sl8Locked_2 d.1.1 d.1.2.1 d.1.2.2.2.2.2.1 d.1.2.2.2.2.2.2.1 d.1.2.2.2.2.2.2.2.1)
theorem lw_sl8Locked_2 : LoopWp Try.prog say_sl8Locked_2 body_sl8Locked_2 := SS.wp G21 (fun _ _ => none) (by rw [show loopsIn 4 body_sl8Locked_2 = [] by kernel_rfl]; simp) S_sl8Locked_2 0 [] (kepts [4] [(4, [0, 1, 5, 6])]) [] sp_sl8Locked_2 rd_sl8Locked_2 _ (fun d => R_sl8Locked_2 d.1.1 d.1.2.1 d.1.2.2.2.2.2.1 d.1.2.2.2.2.2.2.1 d.1.2.2.2.2.2.2.2.1)
noncomputable abbrev S_sl8Locked_1 : SS := ⟨(.t false t_spipispiptt :: .t false t_spiptt :: .junk :: .junk :: .junk :: .t true (.int .i64) :: .t true (.int .i64) :: jS38), []⟩
noncomputable abbrev E_sl8Locked_1_0 : SS := ⟨(.junk :: .junk :: .junk :: .junk :: .t true .bool :: jS40), []⟩
noncomputable abbrev E_sl8Locked_1_1 : SS := ⟨(.t false t_spipispiptt :: .t false t_spiptt :: .junk :: .junk :: .junk :: .t true (.int .i64) :: jS39), []⟩
noncomputable def st_sl8Locked_1 (x0 : LIILIBBee) (x1 : LIBBe) (x5 : Int) (x6 : Int) : RT S_sl8Locked_1.den := (.br (decide (0 ≤ x5 ∧ x5 < ((x0.length : Nat) : Int))) (.br (decide (x6 < (((((x0.getD x5.toNat ((0 : Int), ((0 : Int), []))).2).2).length : Nat) : Int))) (.br ((it_sl8Locked_2 x0 x1 x5 x6 (0 : Int)).1 == 0) (.done .ret E_sl8Locked_1_0 (((), (), (), (), ((it_sl8Locked_2 x0 x1 x5 x6 (0 : Int)).2.1), u41), ())) (.br ((it_sl8Locked_2 x0 x1 x5 x6 (0 : Int)).1 == 1) (.next ((((it_sl8Locked_2 x0 x1 x5 x6 (0 : Int)).2.2.1), ((it_sl8Locked_2 x0 x1 x5 x6 (0 : Int)).2.2.2.1), (), (), (), ((it_sl8Locked_2 x0 x1 x5 x6 (0 : Int)).2.2.2.2.1), IntKind.wrap .i64 (((it_sl8Locked_2 x0 x1 x5 x6 (0 : Int)).2.2.2.2.2) + (1 : Int)), u39), ())) .fail)) (.done (.exit 2) E_sl8Locked_1_1 ((x0, x1, (), (), (), x5, u40), ()))) .fail)
noncomputable abbrev V_sl8Locked_1 := (LIILIBBee) × (LIBBe) × (Int) × (Int)
noncomputable abbrev A_sl8Locked_1 := Nat × (Bool) × (LIILIBBee) × (LIBBe) × (Int)
noncomputable def fl_sl8Locked_1 : A_sl8Locked_1 := (99, (false : Bool), ([] : LIILIBBee), ([] : LIBBe), ((0 : Int) : Int))
noncomputable def ss_sl8Locked_1 (x0 : LIILIBBee) (x1 : LIBBe) (x5 : Int) (x6 : Int) : V_sl8Locked_1 ⊕ A_sl8Locked_1 := (cond (decide (0 ≤ x5 ∧ x5 < ((x0.length : Nat) : Int))) (cond (decide (x6 < (((((x0.getD x5.toNat ((0 : Int), ((0 : Int), []))).2).2).length : Nat) : Int))) (cond ((it_sl8Locked_2 x0 x1 x5 x6 (0 : Int)).1 == 0) (.inr (0, ((it_sl8Locked_2 x0 x1 x5 x6 (0 : Int)).2.1), ([] : LIILIBBee), ([] : LIBBe), ((0 : Int) : Int))) (cond ((it_sl8Locked_2 x0 x1 x5 x6 (0 : Int)).1 == 1) (.inl (((it_sl8Locked_2 x0 x1 x5 x6 (0 : Int)).2.2.1), ((it_sl8Locked_2 x0 x1 x5 x6 (0 : Int)).2.2.2.1), ((it_sl8Locked_2 x0 x1 x5 x6 (0 : Int)).2.2.2.2.1), IntKind.wrap .i64 (((it_sl8Locked_2 x0 x1 x5 x6 (0 : Int)).2.2.2.2.2) + (1 : Int)))) (.inr fl_sl8Locked_1))) (.inr (1, (false : Bool), x0, x1, x5))) (.inr fl_sl8Locked_1))
noncomputable def it_sl8Locked_1 (x0 : LIILIBBee) (x1 : LIBBe) (x5 : Int) (x6 : Int) : A_sl8Locked_1 := itX (fun v : V_sl8Locked_1 => ss_sl8Locked_1 v.1 v.2.1 v.2.2.1 v.2.2.2) fl_sl8Locked_1 (x0, x1, x5, x6)
noncomputable def ct_sl8Locked_1 (a : A_sl8Locked_1) : CT := (.br (a.1 == 0) (.done .ret E_sl8Locked_1_0 (((), (), (), (), a.2.1, u41), ())) (.br (a.1 == 1) (.done (.exit 2) E_sl8Locked_1_1 ((a.2.2.1, a.2.2.2.1, (), (), (), a.2.2.2.2, u40), ())) .fail))
noncomputable def T_sl8Locked_1 (x0 : LIILIBBee) (x1 : LIBBe) (x5 : Int) (x6 : Int) : CT := ct_sl8Locked_1 (it_sl8Locked_1 x0 x1 x5 x6)
noncomputable abbrev sp_sl8Locked_1 : S_sl8Locked_1.den → RT S_sl8Locked_1.den := fun d => st_sl8Locked_1 d.1.1 d.1.2.1 d.1.2.2.2.2.2.1 d.1.2.2.2.2.2.2.1
noncomputable abbrev pk_sl8Locked_1 (x0 : LIILIBBee) (x1 : LIBBe) (x5 : Int) (x6 : Int) : S_sl8Locked_1.den := ((x0, x1, (), (), (), x5, x6, u39), ())
noncomputable abbrev pv_sl8Locked_1 (v : V_sl8Locked_1) : S_sl8Locked_1.den := pk_sl8Locked_1 v.1 v.2.1 v.2.2.1 v.2.2.2
theorem R_sl8Locked_1 (x0 : LIILIBBee) (x1 : LIBBe) (x5 : Int) (x6 : Int) : (T_sl8Locked_1 x0 x1 x5 x6).val (D := S_sl8Locked_1.den) = .fail ∨ Runs sp_sl8Locked_1 (pk_sl8Locked_1 x0 x1 x5 x6) (T_sl8Locked_1 x0 x1 x5 x6).val := Runs.ofIt (step := sp_sl8Locked_1) pv_sl8Locked_1 (ct := ct_sl8Locked_1) rfl (fun v => ((relB (relB (relB rfl (relB rfl rfl)) rfl) rfl) : (st_sl8Locked_1 v.1 v.2.1 v.2.2.1 v.2.2.2).val = relS pv_sl8Locked_1 ct_sl8Locked_1 (ss_sl8Locked_1 v.1 v.2.1 v.2.2.1 v.2.2.2))) (fun a => ((cendB (cendD (by simp)) (cendB (cendD (by simp)) cendF)) : CEnd _ (ct_sl8Locked_1 a))) (x0, x1, x5, x6)
noncomputable def ox_sl8Locked_1 (x0 : LIILIBBee) (x1 : LIBBe) (x5 : Int) (x6 : Int) : Option (Ex × St) := (cond (decide (0 ≤ x5 ∧ x5 < ((x0.length : Nat) : Int))) (cond (decide (x6 < (((((x0.getD x5.toNat ((0 : Int), ((0 : Int), []))).2).2).length : Nat) : Int))) (cond ((it_sl8Locked_2 x0 x1 x5 x6 (0 : Int)).1 == 0) (some (.ret, (⟨(.junk :: .junk :: .junk :: .junk :: (.t true .bool ((it_sl8Locked_2 x0 x1 x5 x6 (0 : Int)).2.1)) :: jA40), [], 0, []⟩ : St))) (cond ((it_sl8Locked_2 x0 x1 x5 x6 (0 : Int)).1 == 1) (some (.normal, (⟨((.t false t_spipispiptt ((it_sl8Locked_2 x0 x1 x5 x6 (0 : Int)).2.2.1)) :: (.t false t_spiptt ((it_sl8Locked_2 x0 x1 x5 x6 (0 : Int)).2.2.2.1)) :: .junk :: .junk :: .junk :: (.t true (.int .i64) ((it_sl8Locked_2 x0 x1 x5 x6 (0 : Int)).2.2.2.2.1)) :: (.t true (.int .i64) (IntKind.wrap .i64 (((it_sl8Locked_2 x0 x1 x5 x6 (0 : Int)).2.2.2.2.2) + (1 : Int)))) :: jA38), [], 0, []⟩ : St))) none)) (some ((.exit 2), (⟨((.t false t_spipispiptt x0) :: (.t false t_spiptt x1) :: .junk :: .junk :: .junk :: (.t true (.int .i64) x5) :: jA39), [], 0, []⟩ : St)))) none)
theorem rdA_sl8Locked_1 : ∀ d, execC Try.prog tt S21 QF21 (fun b => match b with | 4 => say_sl8Locked_2 | _ => fun _ => none) 2 body_sl8Locked_1 (S_sl8Locked_1.st d 0 []) (fun e s' => some (e, S_sl8Locked_1.cutE (kepts [4] [(2, [0, 1, 5])]) e s')) = ox_sl8Locked_1 d.1.1 d.1.2.1 d.1.2.2.2.2.2.1 d.1.2.2.2.2.2.2.1 := by
  intro d
  kernel_rfl
theorem rdB_sl8Locked_1 : ∀ d : S_sl8Locked_1.den, ox_sl8Locked_1 d.1.1 d.1.2.1 d.1.2.2.2.2.2.1 d.1.2.2.2.2.2.2.1 = (sp_sl8Locked_1 d).opt 0 [] := by
  intro d
  kernel_rfl
theorem rd_sl8Locked_1 : ∀ d, execC Try.prog tt S21 QF21 (fun b => match b with | 4 => say_sl8Locked_2 | _ => fun _ => none) 2 body_sl8Locked_1 (S_sl8Locked_1.st d 0 []) (fun e s' => some (e, S_sl8Locked_1.cutE (kepts [4] [(2, [0, 1, 5])]) e s')) = (sp_sl8Locked_1 d).opt 0 [] := fun d => (rdA_sl8Locked_1 d).trans (rdB_sl8Locked_1 d)
noncomputable abbrev say_sl8Locked_1 : St → Option Tree := S_sl8Locked_1.say 0 [] [] (fun d => T_sl8Locked_1 d.1.1 d.1.2.1 d.1.2.2.2.2.2.1 d.1.2.2.2.2.2.2.1)
theorem lw_sl8Locked_1 : LoopWp Try.prog say_sl8Locked_1 body_sl8Locked_1 := SS.wp G21 (fun b => match b with | 4 => say_sl8Locked_2 | _ => fun _ => none) (by rw [show loopsIn 2 body_sl8Locked_1 = [(4, body_sl8Locked_2)] by kernel_rfl]; intro p hp; simp only [List.mem_singleton] at hp; subst hp; exact lw_sl8Locked_2) S_sl8Locked_1 0 [] (kepts [4] [(2, [0, 1, 5])]) [] sp_sl8Locked_1 rd_sl8Locked_1 _ (fun d => R_sl8Locked_1 d.1.1 d.1.2.1 d.1.2.2.2.2.2.1 d.1.2.2.2.2.2.2.1)
noncomputable abbrev S_sl8Locked_0 : SS := ⟨(.t false t_spipispiptt :: .t false t_spiptt :: .junk :: .junk :: .junk :: .t true (.int .i64) :: jS39), []⟩
noncomputable abbrev E_sl8Locked_0_0 : SS := ⟨(.junk :: .junk :: .junk :: .junk :: .t true .bool :: jS40), []⟩
noncomputable abbrev E_sl8Locked_0_1 : SS := ⟨(.junk :: jS44), []⟩
noncomputable def st_sl8Locked_0 (x0 : LIILIBBee) (x1 : LIBBe) (x5 : Int) : RT S_sl8Locked_0.den := (.br (decide (x5 < ((x0.length : Nat) : Int))) (.br ((it_sl8Locked_1 x0 x1 x5 (0 : Int)).1 == 0) (.done .ret E_sl8Locked_0_0 (((), (), (), (), ((it_sl8Locked_1 x0 x1 x5 (0 : Int)).2.1), u41), ())) (.br ((it_sl8Locked_1 x0 x1 x5 (0 : Int)).1 == 1) (.next ((((it_sl8Locked_1 x0 x1 x5 (0 : Int)).2.2.1), ((it_sl8Locked_1 x0 x1 x5 (0 : Int)).2.2.2.1), (), (), (), IntKind.wrap .i64 (((it_sl8Locked_1 x0 x1 x5 (0 : Int)).2.2.2.2) + (1 : Int)), u40), ())) .fail)) (.done (.exit 0) E_sl8Locked_0_1 ((u46), ())))
noncomputable abbrev V_sl8Locked_0 := (LIILIBBee) × (LIBBe) × (Int)
noncomputable abbrev A_sl8Locked_0 := Nat × (Bool)
noncomputable def fl_sl8Locked_0 : A_sl8Locked_0 := (99, (false : Bool))
noncomputable def ss_sl8Locked_0 (x0 : LIILIBBee) (x1 : LIBBe) (x5 : Int) : V_sl8Locked_0 ⊕ A_sl8Locked_0 := (cond (decide (x5 < ((x0.length : Nat) : Int))) (cond ((it_sl8Locked_1 x0 x1 x5 (0 : Int)).1 == 0) (.inr (0, ((it_sl8Locked_1 x0 x1 x5 (0 : Int)).2.1))) (cond ((it_sl8Locked_1 x0 x1 x5 (0 : Int)).1 == 1) (.inl (((it_sl8Locked_1 x0 x1 x5 (0 : Int)).2.2.1), ((it_sl8Locked_1 x0 x1 x5 (0 : Int)).2.2.2.1), IntKind.wrap .i64 (((it_sl8Locked_1 x0 x1 x5 (0 : Int)).2.2.2.2) + (1 : Int)))) (.inr fl_sl8Locked_0))) (.inr (1, (false : Bool))))
noncomputable def it_sl8Locked_0 (x0 : LIILIBBee) (x1 : LIBBe) (x5 : Int) : A_sl8Locked_0 := itX (fun v : V_sl8Locked_0 => ss_sl8Locked_0 v.1 v.2.1 v.2.2) fl_sl8Locked_0 (x0, x1, x5)
noncomputable def ct_sl8Locked_0 (a : A_sl8Locked_0) : CT := (.br (a.1 == 0) (.done .ret E_sl8Locked_0_0 (((), (), (), (), a.2, u41), ())) (.br (a.1 == 1) (.done (.exit 0) E_sl8Locked_0_1 ((u46), ())) .fail))
noncomputable def T_sl8Locked_0 (x0 : LIILIBBee) (x1 : LIBBe) (x5 : Int) : CT := ct_sl8Locked_0 (it_sl8Locked_0 x0 x1 x5)
noncomputable abbrev sp_sl8Locked_0 : S_sl8Locked_0.den → RT S_sl8Locked_0.den := fun d => st_sl8Locked_0 d.1.1 d.1.2.1 d.1.2.2.2.2.2.1
noncomputable abbrev pk_sl8Locked_0 (x0 : LIILIBBee) (x1 : LIBBe) (x5 : Int) : S_sl8Locked_0.den := ((x0, x1, (), (), (), x5, u40), ())
noncomputable abbrev pv_sl8Locked_0 (v : V_sl8Locked_0) : S_sl8Locked_0.den := pk_sl8Locked_0 v.1 v.2.1 v.2.2
theorem R_sl8Locked_0 (x0 : LIILIBBee) (x1 : LIBBe) (x5 : Int) : (T_sl8Locked_0 x0 x1 x5).val (D := S_sl8Locked_0.den) = .fail ∨ Runs sp_sl8Locked_0 (pk_sl8Locked_0 x0 x1 x5) (T_sl8Locked_0 x0 x1 x5).val := Runs.ofIt (step := sp_sl8Locked_0) pv_sl8Locked_0 (ct := ct_sl8Locked_0) rfl (fun v => ((relB (relB rfl (relB rfl rfl)) rfl) : (st_sl8Locked_0 v.1 v.2.1 v.2.2).val = relS pv_sl8Locked_0 ct_sl8Locked_0 (ss_sl8Locked_0 v.1 v.2.1 v.2.2))) (fun a => ((cendB (cendD (by simp)) (cendB (cendD (by simp)) cendF)) : CEnd _ (ct_sl8Locked_0 a))) (x0, x1, x5)
noncomputable def ox_sl8Locked_0 (x0 : LIILIBBee) (x1 : LIBBe) (x5 : Int) : Option (Ex × St) := (cond (decide (x5 < ((x0.length : Nat) : Int))) (cond ((it_sl8Locked_1 x0 x1 x5 (0 : Int)).1 == 0) (some (.ret, (⟨(.junk :: .junk :: .junk :: .junk :: (.t true .bool ((it_sl8Locked_1 x0 x1 x5 (0 : Int)).2.1)) :: jA40), [], 0, []⟩ : St))) (cond ((it_sl8Locked_1 x0 x1 x5 (0 : Int)).1 == 1) (some (.normal, (⟨((.t false t_spipispiptt ((it_sl8Locked_1 x0 x1 x5 (0 : Int)).2.2.1)) :: (.t false t_spiptt ((it_sl8Locked_1 x0 x1 x5 (0 : Int)).2.2.2.1)) :: .junk :: .junk :: .junk :: (.t true (.int .i64) (IntKind.wrap .i64 (((it_sl8Locked_1 x0 x1 x5 (0 : Int)).2.2.2.2) + (1 : Int)))) :: jA39), [], 0, []⟩ : St))) none)) (some ((.exit 0), (⟨(.junk :: jA44), [], 0, []⟩ : St))))
theorem rdA_sl8Locked_0 : ∀ d, execC Try.prog tt S21 QF21 (fun b => match b with | 2 => say_sl8Locked_1 | _ => fun _ => none) 0 body_sl8Locked_0 (S_sl8Locked_0.st d 0 []) (fun e s' => some (e, S_sl8Locked_0.cutE (kepts [4] [(0, [])]) e s')) = ox_sl8Locked_0 d.1.1 d.1.2.1 d.1.2.2.2.2.2.1 := by
  intro d
  kernel_rfl
theorem rdB_sl8Locked_0 : ∀ d : S_sl8Locked_0.den, ox_sl8Locked_0 d.1.1 d.1.2.1 d.1.2.2.2.2.2.1 = (sp_sl8Locked_0 d).opt 0 [] := by
  intro d
  kernel_rfl
theorem rd_sl8Locked_0 : ∀ d, execC Try.prog tt S21 QF21 (fun b => match b with | 2 => say_sl8Locked_1 | _ => fun _ => none) 0 body_sl8Locked_0 (S_sl8Locked_0.st d 0 []) (fun e s' => some (e, S_sl8Locked_0.cutE (kepts [4] [(0, [])]) e s')) = (sp_sl8Locked_0 d).opt 0 [] := fun d => (rdA_sl8Locked_0 d).trans (rdB_sl8Locked_0 d)
noncomputable abbrev say_sl8Locked_0 : St → Option Tree := S_sl8Locked_0.say 0 [] [] (fun d => T_sl8Locked_0 d.1.1 d.1.2.1 d.1.2.2.2.2.2.1)
theorem lw_sl8Locked_0 : LoopWp Try.prog say_sl8Locked_0 body_sl8Locked_0 := SS.wp G21 (fun b => match b with | 2 => say_sl8Locked_1 | _ => fun _ => none) (by rw [show loopsIn 0 body_sl8Locked_0 = [(2, body_sl8Locked_1)] by kernel_rfl]; intro p hp; simp only [List.mem_singleton] at hp; subst hp; exact lw_sl8Locked_1) S_sl8Locked_0 0 [] (kepts [4] [(0, [])]) [] sp_sl8Locked_0 rd_sl8Locked_0 _ (fun d => R_sl8Locked_0 d.1.1 d.1.2.1 d.1.2.2.2.2.2.1)
noncomputable def sl8Locked (a0 : LIILIBBee) (a1 : LIBBe) : Bool := (cond ((it_sl8Locked_0 a0 a1 (0 : Int)).1 == 0) ((it_sl8Locked_0 a0 a1 (0 : Int)).2) false)
noncomputable abbrev e_sl8Locked (r : Bool) : AV × List AObj := ((.t true .bool r), [])
noncomputable abbrev F_sl8Locked (r : Bool) := some (e_sl8Locked r)
noncomputable abbrev g_sl8Locked : pshsDen P_sl8Locked → AV × List AObj := fun d => e_sl8Locked (sl8Locked d.1 d.2.1)
noncomputable def q_sl8Locked (a0 : LIILIBBee) (a1 : LIBBe) : Bool := cond ((it_sl8Locked_0 a0 a1 (0 : Int)).1 == 0) true ((it_sl8Locked_0 a0 a1 (0 : Int)).1 == 1)
noncomputable abbrev pre_sl8Locked : pshsDen P_sl8Locked → Bool := fun d => q_sl8Locked d.1 d.2.1
theorem runA_sl8Locked (a0 : LIILIBBee) (a1 : LIBBe) (hp : q_sl8Locked a0 a1 = true) : runP true Try.prog tt S21 QF21 (fun b => match b with | 0 => say_sl8Locked_0 | _ => fun _ => none) Try.f126 (argsMk P_sl8Locked (a0, (a1, ()))) = some (g_sl8Locked (a0, (a1, ()))) := by
  unfold q_sl8Locked at hp
  refine Eq.trans (b := (cond ((it_sl8Locked_0 a0 a1 (0 : Int)).1 == 0) (some (e_sl8Locked ((it_sl8Locked_0 a0 a1 (0 : Int)).2))) (cond ((it_sl8Locked_0 a0 a1 (0 : Int)).1 == 1) (some (e_sl8Locked false)) none))) (by kernel_rfl) ?_
  exact (cndQ (F := F_sl8Locked) hp (fun hp => rfl) (fun hp => (cndT hp fun _h => rfl)))
theorem run_sl8Locked : ∀ d, pre_sl8Locked d = true → runP true Try.prog tt S21 QF21 (fun b => match b with | 0 => say_sl8Locked_0 | _ => fun _ => none) Try.f126 (argsMk P_sl8Locked d) = some (g_sl8Locked d) := fun d hp => runA_sl8Locked d.1 d.2.1 hp
theorem c_sl8Locked : PContract Try.prog 126 (sumOf P_sl8Locked pre_sl8Locked g_sl8Locked) := PContract.of_data true G21 (fn := Try.f126) (by kernel_rfl) (L := fun b => match b with | 0 => say_sl8Locked_0 | _ => fun _ => none) (by rw [show loopsIn 0 (bodyOf Try.f126) = [(0, body_sl8Locked_0)] by kernel_rfl]; intro p hp; simp only [List.mem_singleton] at hp; subst hp; exact lw_sl8Locked_0) P_sl8Locked pre_sl8Locked g_sl8Locked run_sl8Locked
noncomputable def S22 : Tab := Tab.add S21 126 (lift (sumOf P_sl8Locked pre_sl8Locked g_sl8Locked))
noncomputable def QF22 : FuncId → Bool := qadd QF21 126
theorem G22 : Good Try.prog tt S22 QF22 := G21.addQ c_sl8Locked ⟨Try.f126, by kernel_rfl, by kernel_rfl, by kernel_rfl⟩ (fun _ => rfl)

/-! 157 loop.example/g00244/spec.GetKey -/
noncomputable abbrev u20 := ((), u19)
noncomputable abbrev P_sGetKey : List PSh := [.t t_sptt, .t .str]
noncomputable abbrev S_sGetKey_0 : SS := ⟨(.t false t_sptt :: .t true .str :: .junk :: .junk :: .junk :: .junk :: .t true (.int .i64) :: jS18), []⟩
noncomputable abbrev E_sGetKey_0_0 : SS := ⟨(.junk :: .junk :: .junk :: .junk :: .t true .str :: .t true .bool :: jS19), []⟩
noncomputable abbrev E_sGetKey_0_1 : SS := ⟨(.junk :: jS24), []⟩
noncomputable def st_sGetKey_0 (x0 : LBBe) (x1 : ByteArray) (x6 : Int) : RT S_sGetKey_0.den := (.br (decide (x6 < ((x0.length : Nat) : Int))) (.br (decide (0 ≤ x6 ∧ x6 < ((x0.length : Nat) : Int))) (.br (((x0.getD x6.toNat (bE, bE)).1).toList == x1.toList) (.br (decide (0 ≤ x6 ∧ x6 < ((x0.length : Nat) : Int))) (.done .ret E_sGetKey_0_0 (((), (), (), (), (x0.getD x6.toNat (bE, bE)).2, true, u20), ())) .fail) (.next ((x0, x1, (), (), (), (), IntKind.wrap .i64 (x6 + (1 : Int)), u19), ()))) .fail) (.done (.exit 0) E_sGetKey_0_1 ((u26), ())))
noncomputable abbrev V_sGetKey_0 := (LBBe) × (ByteArray) × (Int)
noncomputable abbrev A_sGetKey_0 := Nat × (ByteArray) × (Bool)
noncomputable def fl_sGetKey_0 : A_sGetKey_0 := (99, (bE : ByteArray), (false : Bool))
noncomputable def ss_sGetKey_0 (x0 : LBBe) (x1 : ByteArray) (x6 : Int) : V_sGetKey_0 ⊕ A_sGetKey_0 := (cond (decide (x6 < ((x0.length : Nat) : Int))) (cond (decide (0 ≤ x6 ∧ x6 < ((x0.length : Nat) : Int))) (cond (((x0.getD x6.toNat (bE, bE)).1).toList == x1.toList) (cond (decide (0 ≤ x6 ∧ x6 < ((x0.length : Nat) : Int))) (.inr (0, (x0.getD x6.toNat (bE, bE)).2, true)) (.inr fl_sGetKey_0)) (.inl (x0, x1, IntKind.wrap .i64 (x6 + (1 : Int))))) (.inr fl_sGetKey_0)) (.inr (1, (bE : ByteArray), (false : Bool))))
noncomputable def it_sGetKey_0 (x0 : LBBe) (x1 : ByteArray) (x6 : Int) : A_sGetKey_0 := itX (fun v : V_sGetKey_0 => ss_sGetKey_0 v.1 v.2.1 v.2.2) fl_sGetKey_0 (x0, x1, x6)
noncomputable def ct_sGetKey_0 (a : A_sGetKey_0) : CT := (.br (a.1 == 0) (.done .ret E_sGetKey_0_0 (((), (), (), (), a.2.1, a.2.2, u20), ())) (.br (a.1 == 1) (.done (.exit 0) E_sGetKey_0_1 ((u26), ())) .fail))
noncomputable def T_sGetKey_0 (x0 : LBBe) (x1 : ByteArray) (x6 : Int) : CT := ct_sGetKey_0 (it_sGetKey_0 x0 x1 x6)
noncomputable abbrev sp_sGetKey_0 : S_sGetKey_0.den → RT S_sGetKey_0.den := fun d => st_sGetKey_0 d.1.1 d.1.2.1 d.1.2.2.2.2.2.2.1
noncomputable abbrev pk_sGetKey_0 (x0 : LBBe) (x1 : ByteArray) (x6 : Int) : S_sGetKey_0.den := ((x0, x1, (), (), (), (), x6, u19), ())
noncomputable def body_sGetKey_0 : Code := ((loopsIn 0 (bodyOf Try.f157)).getD 0 (0, .skip)).2
noncomputable abbrev pv_sGetKey_0 (v : V_sGetKey_0) : S_sGetKey_0.den := pk_sGetKey_0 v.1 v.2.1 v.2.2
theorem R_sGetKey_0 (x0 : LBBe) (x1 : ByteArray) (x6 : Int) : (T_sGetKey_0 x0 x1 x6).val (D := S_sGetKey_0.den) = .fail ∨ Runs sp_sGetKey_0 (pk_sGetKey_0 x0 x1 x6) (T_sGetKey_0 x0 x1 x6).val := Runs.ofIt (step := sp_sGetKey_0) pv_sGetKey_0 (ct := ct_sGetKey_0) rfl (fun v => ((relB (relB (relB (relB rfl rfl) rfl) rfl) rfl) : (st_sGetKey_0 v.1 v.2.1 v.2.2).val = relS pv_sGetKey_0 ct_sGetKey_0 (ss_sGetKey_0 v.1 v.2.1 v.2.2))) (fun a => ((cendB (cendD (by simp)) (cendB (cendD (by simp)) cendF)) : CEnd _ (ct_sGetKey_0 a))) (x0, x1, x6)
theorem rd_sGetKey_0 : ∀ d, execC Try.prog tt S22 QF22 (fun _ _ => none) 0 body_sGetKey_0 (S_sGetKey_0.st d 0 []) (fun e s' => some (e, S_sGetKey_0.cutE (kepts [4, 5] [(0, [])]) e s')) = (sp_sGetKey_0 d).opt 0 [] := by
  intro d
  kernel_rfl
noncomputable abbrev say_sGetKey_0 : St → Option Tree := S_sGetKey_0.say 0 [] [] (fun d => T_sGetKey_0 d.1.1 d.1.2.1 d.1.2.2.2.2.2.2.1)
theorem lw_sGetKey_0 : LoopWp Try.prog say_sGetKey_0 body_sGetKey_0 := SS.wp G22 (fun _ _ => none) (by rw [show loopsIn 0 body_sGetKey_0 = [] by kernel_rfl]; simp) S_sGetKey_0 0 [] (kepts [4, 5] [(0, [])]) [] sp_sGetKey_0 rd_sGetKey_0 _ (fun d => R_sGetKey_0 d.1.1 d.1.2.1 d.1.2.2.2.2.2.2.1)
noncomputable def sGetKey (a0 : LBBe) (a1 : ByteArray) : ByteArray × Bool := (cond ((it_sGetKey_0 a0 a1 (0 : Int)).1 == 0) (((it_sGetKey_0 a0 a1 (0 : Int)).2.1), ((it_sGetKey_0 a0 a1 (0 : Int)).2.2)) (bE, false))
noncomputable abbrev e_sGetKey (r : ByteArray × Bool) : AV × List AObj := ((.tup [(.t true .str r.1), (.t true .bool r.2)]), [])
noncomputable abbrev F_sGetKey (r : ByteArray × Bool) := some (e_sGetKey r)
noncomputable abbrev g_sGetKey : pshsDen P_sGetKey → AV × List AObj := fun d => e_sGetKey (sGetKey d.1 d.2.1)
noncomputable def q_sGetKey (a0 : LBBe) (a1 : ByteArray) : Bool := cond ((it_sGetKey_0 a0 a1 (0 : Int)).1 == 0) true ((it_sGetKey_0 a0 a1 (0 : Int)).1 == 1)
noncomputable abbrev pre_sGetKey : pshsDen P_sGetKey → Bool := fun d => q_sGetKey d.1 d.2.1
theorem runA_sGetKey (a0 : LBBe) (a1 : ByteArray) (hp : q_sGetKey a0 a1 = true) : runP true Try.prog tt S22 QF22 (fun b => match b with | 0 => say_sGetKey_0 | _ => fun _ => none) Try.f157 (argsMk P_sGetKey (a0, (a1, ()))) = some (g_sGetKey (a0, (a1, ()))) := by
  unfold q_sGetKey at hp
  refine Eq.trans (b := (cond ((it_sGetKey_0 a0 a1 (0 : Int)).1 == 0) (some (e_sGetKey (((it_sGetKey_0 a0 a1 (0 : Int)).2.1), ((it_sGetKey_0 a0 a1 (0 : Int)).2.2)))) (cond ((it_sGetKey_0 a0 a1 (0 : Int)).1 == 1) (some (e_sGetKey ((⟨#[]⟩ : ByteArray), false))) none))) (by kernel_rfl) ?_
  exact (cndQ (F := F_sGetKey) hp (fun hp => rfl) (fun hp => (cndT hp fun _h => rfl)))
theorem run_sGetKey : ∀ d, pre_sGetKey d = true → runP true Try.prog tt S22 QF22 (fun b => match b with | 0 => say_sGetKey_0 | _ => fun _ => none) Try.f157 (argsMk P_sGetKey d) = some (g_sGetKey d) := fun d hp => runA_sGetKey d.1 d.2.1 hp
theorem c_sGetKey : PContract Try.prog 157 (sumOf P_sGetKey pre_sGetKey g_sGetKey) := PContract.of_data true G22 (fn := Try.f157) (by kernel_rfl) (L := fun b => match b with | 0 => say_sGetKey_0 | _ => fun _ => none) (by rw [show loopsIn 0 (bodyOf Try.f157) = [(0, body_sGetKey_0)] by kernel_rfl]; intro p hp; simp only [List.mem_singleton] at hp; subst hp; exact lw_sGetKey_0) P_sGetKey pre_sGetKey g_sGetKey run_sGetKey
noncomputable def S23 : Tab := Tab.add S22 157 (lift (sumOf P_sGetKey pre_sGetKey g_sGetKey))
noncomputable def QF23 : FuncId → Bool := qadd QF22 157
theorem G23 : Good Try.prog tt S23 QF23 := G22.addQ c_sGetKey ⟨Try.f157, by kernel_rfl, by kernel_rfl, by kernel_rfl⟩ (fun _ => rfl)

/-! 127 loop.example/g00244/spec.Meets -/
noncomputable abbrev jS41 : List Sh := .junk :: jS40
noncomputable abbrev jS42 : List Sh := .junk :: jS41
noncomputable abbrev jS46 : List Sh := .junk :: .junk :: jS44
noncomputable abbrev u42 := ((), u41)
noncomputable abbrev u43 := ((), u42)
noncomputable abbrev u48 := ((), (), u46)
noncomputable abbrev jA41 : List AV := .junk :: jA40
noncomputable abbrev jA42 : List AV := .junk :: jA41
noncomputable abbrev jA46 : List AV := .junk :: .junk :: jA44
noncomputable abbrev P_sMeets : List PSh := [.t t_sptt, .t t_spiptt]
noncomputable abbrev S_sMeets_0 : SS := ⟨(.t false t_sptt :: .t false t_spiptt :: .junk :: .junk :: .junk :: .t true (.int .i64) :: jS41), []⟩
noncomputable abbrev E_sMeets_0_0 : SS := ⟨(.junk :: .junk :: .junk :: .junk :: .t true .bool :: jS42), []⟩
noncomputable abbrev E_sMeets_0_1 : SS := ⟨(.junk :: jS46), []⟩
noncomputable def k1_sMeets (x0 : LBBe) (x1 : LIBBe) (x5 : Int) := sGetKey x0 (((x1.getD x5.toNat ((0 : Int), (bE, bE))).2).1)
noncomputable def st_sMeets_0 (x0 : LBBe) (x1 : LIBBe) (x5 : Int) : RT S_sMeets_0.den := (.br (decide (x5 < ((x1.length : Nat) : Int))) (.br (decide (0 ≤ x5 ∧ x5 < ((x1.length : Nat) : Int))) (.br (((x1.getD x5.toNat ((0 : Int), (bE, bE))).1) != (3 : Int)) (.next ((x0, x1, (), (), (), IntKind.wrap .i64 (x5 + (1 : Int)), u42), ())) (.br (decide (0 ≤ x5 ∧ x5 < ((x1.length : Nat) : Int))) (.br (q_sGetKey x0 (((x1.getD x5.toNat ((0 : Int), (bE, bE))).2).1)) (.br (decide (0 ≤ x5 ∧ x5 < ((x1.length : Nat) : Int))) (.br (!(((k1_sMeets x0 x1 x5).2) == (!((((x1.getD x5.toNat ((0 : Int), (bE, bE))).2).2).toList == bE.toList)))) (.done .ret E_sMeets_0_0 (((), (), (), (), false, u43), ())) (.br (decide (0 ≤ x5 ∧ x5 < ((x1.length : Nat) : Int))) (.br (!(((k1_sMeets x0 x1 x5).1).toList == (((x1.getD x5.toNat ((0 : Int), (bE, bE))).2).2).toList)) (.done .ret E_sMeets_0_0 (((), (), (), (), false, u43), ())) (.next ((x0, x1, (), (), (), IntKind.wrap .i64 (x5 + (1 : Int)), u42), ()))) .fail)) .fail) .fail) .fail)) .fail) (.done (.exit 0) E_sMeets_0_1 ((u48), ())))
noncomputable abbrev V_sMeets_0 := (LBBe) × (LIBBe) × (Int)
noncomputable abbrev A_sMeets_0 := Nat × (Bool)
noncomputable def fl_sMeets_0 : A_sMeets_0 := (99, (false : Bool))
noncomputable def ss_sMeets_0 (x0 : LBBe) (x1 : LIBBe) (x5 : Int) : V_sMeets_0 ⊕ A_sMeets_0 := (cond (decide (x5 < ((x1.length : Nat) : Int))) (cond (decide (0 ≤ x5 ∧ x5 < ((x1.length : Nat) : Int))) (cond (((x1.getD x5.toNat ((0 : Int), (bE, bE))).1) != (3 : Int)) (.inl (x0, x1, IntKind.wrap .i64 (x5 + (1 : Int)))) (cond (decide (0 ≤ x5 ∧ x5 < ((x1.length : Nat) : Int))) (cond (q_sGetKey x0 (((x1.getD x5.toNat ((0 : Int), (bE, bE))).2).1)) (cond (decide (0 ≤ x5 ∧ x5 < ((x1.length : Nat) : Int))) (cond (!(((k1_sMeets x0 x1 x5).2) == (!((((x1.getD x5.toNat ((0 : Int), (bE, bE))).2).2).toList == bE.toList)))) (.inr (0, false)) (cond (decide (0 ≤ x5 ∧ x5 < ((x1.length : Nat) : Int))) (cond (!(((k1_sMeets x0 x1 x5).1).toList == (((x1.getD x5.toNat ((0 : Int), (bE, bE))).2).2).toList)) (.inr (0, false)) (.inl (x0, x1, IntKind.wrap .i64 (x5 + (1 : Int))))) (.inr fl_sMeets_0))) (.inr fl_sMeets_0)) (.inr fl_sMeets_0)) (.inr fl_sMeets_0))) (.inr fl_sMeets_0)) (.inr (1, (false : Bool))))
noncomputable def it_sMeets_0 (x0 : LBBe) (x1 : LIBBe) (x5 : Int) : A_sMeets_0 := itX (fun v : V_sMeets_0 => ss_sMeets_0 v.1 v.2.1 v.2.2) fl_sMeets_0 (x0, x1, x5)
noncomputable def ct_sMeets_0 (a : A_sMeets_0) : CT := (.br (a.1 == 0) (.done .ret E_sMeets_0_0 (((), (), (), (), a.2, u43), ())) (.br (a.1 == 1) (.done (.exit 0) E_sMeets_0_1 ((u48), ())) .fail))
noncomputable def T_sMeets_0 (x0 : LBBe) (x1 : LIBBe) (x5 : Int) : CT := ct_sMeets_0 (it_sMeets_0 x0 x1 x5)
noncomputable abbrev sp_sMeets_0 : S_sMeets_0.den → RT S_sMeets_0.den := fun d => st_sMeets_0 d.1.1 d.1.2.1 d.1.2.2.2.2.2.1
noncomputable abbrev pk_sMeets_0 (x0 : LBBe) (x1 : LIBBe) (x5 : Int) : S_sMeets_0.den := ((x0, x1, (), (), (), x5, u42), ())
noncomputable def body_sMeets_0 : Code := ((loopsIn 0 (bodyOf Try.f127)).getD 0 (0, .skip)).2
noncomputable abbrev pv_sMeets_0 (v : V_sMeets_0) : S_sMeets_0.den := pk_sMeets_0 v.1 v.2.1 v.2.2
theorem R_sMeets_0 (x0 : LBBe) (x1 : LIBBe) (x5 : Int) : (T_sMeets_0 x0 x1 x5).val (D := S_sMeets_0.den) = .fail ∨ Runs sp_sMeets_0 (pk_sMeets_0 x0 x1 x5) (T_sMeets_0 x0 x1 x5).val := Runs.ofIt (step := sp_sMeets_0) pv_sMeets_0 (ct := ct_sMeets_0) rfl (fun v => ((relB (relB (relB rfl (relB (relB (relB (relB rfl (relB (relB rfl rfl) rfl)) rfl) rfl) rfl)) rfl) rfl) : (st_sMeets_0 v.1 v.2.1 v.2.2).val = relS pv_sMeets_0 ct_sMeets_0 (ss_sMeets_0 v.1 v.2.1 v.2.2))) (fun a => ((cendB (cendD (by simp)) (cendB (cendD (by simp)) cendF)) : CEnd _ (ct_sMeets_0 a))) (x0, x1, x5)
noncomputable def ox_sMeets_0 (x0 : LBBe) (x1 : LIBBe) (x5 : Int) : Option (Ex × St) := (cond (decide (x5 < ((x1.length : Nat) : Int))) (cond (decide (0 ≤ x5 ∧ x5 < ((x1.length : Nat) : Int))) (cond (((x1.getD x5.toNat ((0 : Int), (bE, bE))).1) != (3 : Int)) (some (.normal, (⟨((.t false t_sptt x0) :: (.t false t_spiptt x1) :: .junk :: .junk :: .junk :: (.t true (.int .i64) (IntKind.wrap .i64 (x5 + (1 : Int)))) :: jA41), [], 0, []⟩ : St))) (cond (decide (0 ≤ x5 ∧ x5 < ((x1.length : Nat) : Int))) (cond (q_sGetKey x0 (((x1.getD x5.toNat ((0 : Int), (bE, bE))).2).1)) (cond (decide (0 ≤ x5 ∧ x5 < ((x1.length : Nat) : Int))) (cond (!(((k1_sMeets x0 x1 x5).2) == (!((((x1.getD x5.toNat ((0 : Int), (bE, bE))).2).2).toList == bE.toList)))) (some (.ret, (⟨(.junk :: .junk :: .junk :: .junk :: (.t true .bool false) :: jA42), [], 0, []⟩ : St))) (cond (decide (0 ≤ x5 ∧ x5 < ((x1.length : Nat) : Int))) (cond (!(((k1_sMeets x0 x1 x5).1).toList == (((x1.getD x5.toNat ((0 : Int), (bE, bE))).2).2).toList)) (some (.ret, (⟨(.junk :: .junk :: .junk :: .junk :: (.t true .bool false) :: jA42), [], 0, []⟩ : St))) (some (.normal, (⟨((.t false t_sptt x0) :: (.t false t_spiptt x1) :: .junk :: .junk :: .junk :: (.t true (.int .i64) (IntKind.wrap .i64 (x5 + (1 : Int)))) :: jA41), [], 0, []⟩ : St)))) none)) none) none) none)) none) (some ((.exit 0), (⟨(.junk :: jA46), [], 0, []⟩ : St))))
theorem rdA_sMeets_0 : ∀ d, execC Try.prog tt S23 QF23 (fun _ _ => none) 0 body_sMeets_0 (S_sMeets_0.st d 0 []) (fun e s' => some (e, S_sMeets_0.cutE (kepts [4] [(0, [])]) e s')) = ox_sMeets_0 d.1.1 d.1.2.1 d.1.2.2.2.2.2.1 := by
  intro d
  kernel_rfl
theorem rdB_sMeets_0 : ∀ d : S_sMeets_0.den, ox_sMeets_0 d.1.1 d.1.2.1 d.1.2.2.2.2.2.1 = (sp_sMeets_0 d).opt 0 [] := by
  intro d
  kernel_rfl
theorem rd_sMeets_0 : ∀ d, execC Try.prog tt S23 QF23 (fun _ _ => none) 0 body_sMeets_0 (S_sMeets_0.st d 0 []) (fun e s' => some (e, S_sMeets_0.cutE (kepts [4] [(0, [])]) e s')) = (sp_sMeets_0 d).opt 0 [] := fun d => (rdA_sMeets_0 d).trans (rdB_sMeets_0 d)
noncomputable abbrev say_sMeets_0 : St → Option Tree := S_sMeets_0.say 0 [] [] (fun d => T_sMeets_0 d.1.1 d.1.2.1 d.1.2.2.2.2.2.1)
theorem lw_sMeets_0 : LoopWp Try.prog say_sMeets_0 body_sMeets_0 := SS.wp G23 (fun _ _ => none) (by rw [show loopsIn 0 body_sMeets_0 = [] by kernel_rfl]; simp) S_sMeets_0 0 [] (kepts [4] [(0, [])]) [] sp_sMeets_0 rd_sMeets_0 _ (fun d => R_sMeets_0 d.1.1 d.1.2.1 d.1.2.2.2.2.2.1)
noncomputable def sMeets (a0 : LBBe) (a1 : LIBBe) : Bool := (cond ((it_sMeets_0 a0 a1 (0 : Int)).1 == 0) ((it_sMeets_0 a0 a1 (0 : Int)).2) true)
noncomputable abbrev e_sMeets (r : Bool) : AV × List AObj := ((.t true .bool r), [])
noncomputable abbrev F_sMeets (r : Bool) := some (e_sMeets r)
noncomputable abbrev g_sMeets : pshsDen P_sMeets → AV × List AObj := fun d => e_sMeets (sMeets d.1 d.2.1)
noncomputable def q_sMeets (a0 : LBBe) (a1 : LIBBe) : Bool := cond ((it_sMeets_0 a0 a1 (0 : Int)).1 == 0) true ((it_sMeets_0 a0 a1 (0 : Int)).1 == 1)
noncomputable abbrev pre_sMeets : pshsDen P_sMeets → Bool := fun d => q_sMeets d.1 d.2.1
theorem runA_sMeets (a0 : LBBe) (a1 : LIBBe) (hp : q_sMeets a0 a1 = true) : runP true Try.prog tt S23 QF23 (fun b => match b with | 0 => say_sMeets_0 | _ => fun _ => none) Try.f127 (argsMk P_sMeets (a0, (a1, ()))) = some (g_sMeets (a0, (a1, ()))) := by
  unfold q_sMeets at hp
  refine Eq.trans (b := (cond ((it_sMeets_0 a0 a1 (0 : Int)).1 == 0) (some (e_sMeets ((it_sMeets_0 a0 a1 (0 : Int)).2))) (cond ((it_sMeets_0 a0 a1 (0 : Int)).1 == 1) (some (e_sMeets true)) none))) (by kernel_rfl) ?_
  exact (cndQ (F := F_sMeets) hp (fun hp => rfl) (fun hp => (cndT hp fun _h => rfl)))
theorem run_sMeets : ∀ d, pre_sMeets d = true → runP true Try.prog tt S23 QF23 (fun b => match b with | 0 => say_sMeets_0 | _ => fun _ => none) Try.f127 (argsMk P_sMeets d) = some (g_sMeets d) := fun d hp => runA_sMeets d.1 d.2.1 hp
theorem c_sMeets : PContract Try.prog 127 (sumOf P_sMeets pre_sMeets g_sMeets) := PContract.of_data true G23 (fn := Try.f127) (by kernel_rfl) (L := fun b => match b with | 0 => say_sMeets_0 | _ => fun _ => none) (by rw [show loopsIn 0 (bodyOf Try.f127) = [(0, body_sMeets_0)] by kernel_rfl]; intro p hp; simp only [List.mem_singleton] at hp; subst hp; exact lw_sMeets_0) P_sMeets pre_sMeets g_sMeets run_sMeets
noncomputable def S24 : Tab := Tab.add S23 127 (lift (sumOf P_sMeets pre_sMeets g_sMeets))
noncomputable def QF24 : FuncId → Bool := qadd QF23 127
theorem G24 : Good Try.prog tt S24 QF24 := G23.addQ c_sMeets ⟨Try.f127, by kernel_rfl, by kernel_rfl, by kernel_rfl⟩ (fun _ => rfl)

/-! 158 loop.example/g00244/spec.l7CopyOps -/
noncomputable abbrev P_sl7CopyOps : List PSh := [.t t_spiptt]
noncomputable def sl7CopyOps (a0 : LIBBe) : LIBBe := (([] : LIBBe) ++ a0)
noncomputable abbrev e_sl7CopyOps (r : LIBBe) : AV × List AObj := ((.t true t_spiptt r), [])
noncomputable abbrev F_sl7CopyOps (r : LIBBe) := some (e_sl7CopyOps r)
noncomputable abbrev g_sl7CopyOps : pshsDen P_sl7CopyOps → AV × List AObj := fun d => e_sl7CopyOps (sl7CopyOps d.1)
noncomputable def q_sl7CopyOps (a0 : LIBBe) : Bool := decide ((([] : LIBBe).length + a0.length) * 40 ≤ MAXB)
noncomputable abbrev pre_sl7CopyOps : pshsDen P_sl7CopyOps → Bool := fun d => q_sl7CopyOps d.1
theorem runA_sl7CopyOps (a0 : LIBBe) (hp : q_sl7CopyOps a0 = true) : runP true Try.prog tt S24 QF24 (fun _ _ => none) Try.f158 (argsMk P_sl7CopyOps (a0, ())) = some (g_sl7CopyOps (a0, ())) := by
  unfold q_sl7CopyOps at hp
  refine Eq.trans (b := (cond (decide ((([] : LIBBe).length + a0.length) * 40 ≤ MAXB)) (some (e_sl7CopyOps (([] : LIBBe) ++ a0))) none)) (by kernel_rfl) ?_
  exact (cndT hp fun _h => rfl)
theorem run_sl7CopyOps : ∀ d, pre_sl7CopyOps d = true → runP true Try.prog tt S24 QF24 (fun _ _ => none) Try.f158 (argsMk P_sl7CopyOps d) = some (g_sl7CopyOps d) := fun d hp => runA_sl7CopyOps d.1 hp
theorem c_sl7CopyOps : PContract Try.prog 158 (sumOf P_sl7CopyOps pre_sl7CopyOps g_sl7CopyOps) := PContract.of_data true G24 (fn := Try.f158) (by kernel_rfl) (L := fun _ _ => none) (by rw [show loopsIn 0 (bodyOf Try.f158) = [] by kernel_rfl]; simp) P_sl7CopyOps pre_sl7CopyOps g_sl7CopyOps run_sl7CopyOps
noncomputable def S25 : Tab := Tab.add S24 158 (lift (sumOf P_sl7CopyOps pre_sl7CopyOps g_sl7CopyOps))
noncomputable def QF25 : FuncId → Bool := qadd QF24 158
theorem G25 : Good Try.prog tt S25 QF25 := G24.addQ c_sl7CopyOps ⟨Try.f158, by kernel_rfl, by kernel_rfl, by kernel_rfl⟩ (fun _ => rfl)

/-! 128 loop.example/g00244/spec.l8CopyRec -/
noncomputable abbrev P_sl8CopyRec : List PSh := [.agg [(.int .i64), (.int .i64), t_spiptt]]
noncomputable def sl8CopyRec (a0 : Int) (a1 : Int) (a2 : LIBBe) : Int × Int × LIBBe := (a0, a1, (sl7CopyOps a2))
noncomputable abbrev e_sl8CopyRec (r : Int × Int × LIBBe) : AV × List AObj := ((.agg [(.t true (.int .i64) r.1), (.t true (.int .i64) r.2.1), (.t true t_spiptt r.2.2)]), [])
noncomputable abbrev F_sl8CopyRec (r : Int × Int × LIBBe) := some (e_sl8CopyRec r)
noncomputable abbrev g_sl8CopyRec : pshsDen P_sl8CopyRec → AV × List AObj := fun d => e_sl8CopyRec (sl8CopyRec d.1.1 d.1.2.1 d.1.2.2.1)
noncomputable def q_sl8CopyRec (a0 : Int) (a1 : Int) (a2 : LIBBe) : Bool := q_sl7CopyOps a2
noncomputable abbrev pre_sl8CopyRec : pshsDen P_sl8CopyRec → Bool := fun d => q_sl8CopyRec d.1.1 d.1.2.1 d.1.2.2.1
theorem runA_sl8CopyRec (a0 : Int) (a1 : Int) (a2 : LIBBe) (hp : q_sl8CopyRec a0 a1 a2 = true) : runP true Try.prog tt S25 QF25 (fun _ _ => none) Try.f128 (argsMk P_sl8CopyRec ((a0, (a1, (a2, ()))), ())) = some (g_sl8CopyRec ((a0, (a1, (a2, ()))), ())) := by
  unfold q_sl8CopyRec at hp
  refine Eq.trans (b := (cond (q_sl7CopyOps a2) (some (e_sl8CopyRec (a0, a1, (sl7CopyOps a2)))) none)) (by kernel_rfl) ?_
  exact (cndT hp fun _h => rfl)
theorem run_sl8CopyRec : ∀ d, pre_sl8CopyRec d = true → runP true Try.prog tt S25 QF25 (fun _ _ => none) Try.f128 (argsMk P_sl8CopyRec d) = some (g_sl8CopyRec d) := fun d hp => runA_sl8CopyRec d.1.1 d.1.2.1 d.1.2.2.1 hp
theorem c_sl8CopyRec : PContract Try.prog 128 (sumOf P_sl8CopyRec pre_sl8CopyRec g_sl8CopyRec) := PContract.of_data true G25 (fn := Try.f128) (by kernel_rfl) (L := fun _ _ => none) (by rw [show loopsIn 0 (bodyOf Try.f128) = [] by kernel_rfl]; simp) P_sl8CopyRec pre_sl8CopyRec g_sl8CopyRec run_sl8CopyRec
noncomputable def S26 : Tab := Tab.add S25 128 (lift (sumOf P_sl8CopyRec pre_sl8CopyRec g_sl8CopyRec))
noncomputable def QF26 : FuncId → Bool := qadd QF25 128
theorem G26 : Good Try.prog tt S26 QF26 := G25.addQ c_sl8CopyRec ⟨Try.f128, by kernel_rfl, by kernel_rfl, by kernel_rfl⟩ (fun _ => rfl)

/-! 159 loop.example/g00244/spec.PutKey -/
noncomputable abbrev jS53 : List Sh := .junk :: .junk :: .junk :: .junk :: .junk :: .junk :: .junk :: jS46
noncomputable abbrev jS55 : List Sh := .junk :: .junk :: jS53
noncomputable abbrev jS59 : List Sh := .junk :: .junk :: .junk :: .junk :: jS55
noncomputable abbrev u63 := ((), (), (), (), (), (), (), (), (), (), (), (), (), (), (), u48)
noncomputable abbrev u54 := ((), (), (), (), (), (), u48)
noncomputable abbrev u60 := ((), (), (), (), (), (), u54)
noncomputable abbrev jA55 : List AV := .junk :: .junk :: .junk :: .junk :: .junk :: .junk :: .junk :: .junk :: .junk :: jA46
noncomputable abbrev jA53 : List AV := .junk :: .junk :: .junk :: .junk :: .junk :: .junk :: .junk :: jA46
noncomputable abbrev jA59 : List AV := .junk :: .junk :: .junk :: .junk :: jA55
noncomputable abbrev jS52 : List Sh := .junk :: .junk :: .junk :: .junk :: .junk :: .junk :: jS46
noncomputable abbrev u53 := ((), (), (), (), (), u48)
noncomputable abbrev jA52 : List AV := .junk :: .junk :: .junk :: .junk :: .junk :: .junk :: jA46
noncomputable abbrev P_sPutKey : List PSh := [.t t_sptt, .t .str, .t .str]
noncomputable def body_sPutKey_0 : Code := ((loopsIn 0 (bodyOf Try.f159)).getD 0 (0, .skip)).2
noncomputable def body_sPutKey_1 : Code := ((loopsIn 0 (bodyOf Try.f159)).getD 1 (0, .skip)).2
noncomputable abbrev S_sPutKey_0 : SS := ⟨(.t false t_sptt :: .t true .str :: .t true .str :: .junk :: .junk :: .junk :: .junk :: .all 0 2 :: .t true (.int .i64) :: jS53), [.rows 110 true t_ptt]⟩
noncomputable abbrev E_sPutKey_0_0 : SS := ⟨(.junk :: .junk :: .junk :: .junk :: .junk :: .junk :: .all 0 2 :: jS55), [.rows 110 true t_ptt]⟩
noncomputable abbrev E_sPutKey_0_1 : SS := ⟨(.t false t_sptt :: .t true .str :: .t true .str :: jS59), []⟩
noncomputable def st_sPutKey_0 (x0 : LBBe) (x1 : ByteArray) (x2 : ByteArray) (x8 : Int) (h0 : LBBe) : RT S_sPutKey_0.den := (.br (decide (x8 < ((h0.length : Nat) : Int))) (.br (decide (0 ≤ x8 ∧ x8 < ((h0.length : Nat) : Int))) (.br (((h0.getD x8.toNat (bE, bE)).1).toList == x1.toList) (.br (decide (0 ≤ x8 ∧ x8 < ((h0.length : Nat) : Int))) (.done .ret E_sPutKey_0_0 ((u63), (h0.set x8.toNat ((h0.getD x8.toNat (bE, bE)).1, x2), ()))) .fail) (.next ((x0, x1, x2, (), (), (), (), (), IntKind.wrap .i64 (x8 + (1 : Int)), u54), (h0, ())))) .fail) (.done (.exit 0) E_sPutKey_0_1 ((x0, x1, x2, u60), ())))
noncomputable abbrev V_sPutKey_0 := (LBBe) × (ByteArray) × (ByteArray) × (Int) × (LBBe)
noncomputable abbrev A_sPutKey_0 := Nat × (LBBe) × (LBBe) × (ByteArray) × (ByteArray)
noncomputable def fl_sPutKey_0 : A_sPutKey_0 := (99, ([] : LBBe), ([] : LBBe), (bE : ByteArray), (bE : ByteArray))
noncomputable def ss_sPutKey_0 (x0 : LBBe) (x1 : ByteArray) (x2 : ByteArray) (x8 : Int) (h0 : LBBe) : V_sPutKey_0 ⊕ A_sPutKey_0 := (cond (decide (x8 < ((h0.length : Nat) : Int))) (cond (decide (0 ≤ x8 ∧ x8 < ((h0.length : Nat) : Int))) (cond (((h0.getD x8.toNat (bE, bE)).1).toList == x1.toList) (cond (decide (0 ≤ x8 ∧ x8 < ((h0.length : Nat) : Int))) (.inr (0, h0.set x8.toNat ((h0.getD x8.toNat (bE, bE)).1, x2), ([] : LBBe), (bE : ByteArray), (bE : ByteArray))) (.inr fl_sPutKey_0)) (.inl (x0, x1, x2, IntKind.wrap .i64 (x8 + (1 : Int)), h0))) (.inr fl_sPutKey_0)) (.inr (1, ([] : LBBe), x0, x1, x2)))
noncomputable def it_sPutKey_0 (x0 : LBBe) (x1 : ByteArray) (x2 : ByteArray) (x8 : Int) (h0 : LBBe) : A_sPutKey_0 := itX (fun v : V_sPutKey_0 => ss_sPutKey_0 v.1 v.2.1 v.2.2.1 v.2.2.2.1 v.2.2.2.2) fl_sPutKey_0 (x0, x1, x2, x8, h0)
noncomputable def ct_sPutKey_0 (a : A_sPutKey_0) : CT := (.br (a.1 == 0) (.done .ret E_sPutKey_0_0 ((u63), (a.2.1, ()))) (.br (a.1 == 1) (.done (.exit 0) E_sPutKey_0_1 ((a.2.2.1, a.2.2.2.1, a.2.2.2.2, u60), ())) .fail))
noncomputable def T_sPutKey_0 (x0 : LBBe) (x1 : ByteArray) (x2 : ByteArray) (x8 : Int) (h0 : LBBe) : CT := ct_sPutKey_0 (it_sPutKey_0 x0 x1 x2 x8 h0)
noncomputable abbrev sp_sPutKey_0 : S_sPutKey_0.den → RT S_sPutKey_0.den := fun d => st_sPutKey_0 d.1.1 d.1.2.1 d.1.2.2.1 d.1.2.2.2.2.2.2.2.2.1 d.2.1
noncomputable abbrev pk_sPutKey_0 (x0 : LBBe) (x1 : ByteArray) (x2 : ByteArray) (x8 : Int) (h0 : LBBe) : S_sPutKey_0.den := ((x0, x1, x2, (), (), (), (), (), x8, u54), (h0, ()))
noncomputable abbrev pv_sPutKey_0 (v : V_sPutKey_0) : S_sPutKey_0.den := pk_sPutKey_0 v.1 v.2.1 v.2.2.1 v.2.2.2.1 v.2.2.2.2
theorem R_sPutKey_0 (x0 : LBBe) (x1 : ByteArray) (x2 : ByteArray) (x8 : Int) (h0 : LBBe) : (T_sPutKey_0 x0 x1 x2 x8 h0).val (D := S_sPutKey_0.den) = .fail ∨ Runs sp_sPutKey_0 (pk_sPutKey_0 x0 x1 x2 x8 h0) (T_sPutKey_0 x0 x1 x2 x8 h0).val := Runs.ofIt (step := sp_sPutKey_0) pv_sPutKey_0 (ct := ct_sPutKey_0) rfl (fun v => ((relB (relB (relB (relB rfl rfl) rfl) rfl) rfl) : (st_sPutKey_0 v.1 v.2.1 v.2.2.1 v.2.2.2.1 v.2.2.2.2).val = relS pv_sPutKey_0 ct_sPutKey_0 (ss_sPutKey_0 v.1 v.2.1 v.2.2.1 v.2.2.2.1 v.2.2.2.2))) (fun a => ((cendB (cendD (by simp)) (cendB (cendD (by simp)) cendF)) : CEnd _ (ct_sPutKey_0 a))) (x0, x1, x2, x8, h0)
noncomputable def ox_sPutKey_0 (x0 : LBBe) (x1 : ByteArray) (x2 : ByteArray) (x8 : Int) (h0 : LBBe) : Option (Ex × St) := (cond (decide (x8 < ((h0.length : Nat) : Int))) (cond (decide (0 ≤ x8 ∧ x8 < ((h0.length : Nat) : Int))) (cond (((h0.getD x8.toNat (bE, bE)).1).toList == x1.toList) (cond (decide (0 ≤ x8 ∧ x8 < ((h0.length : Nat) : Int))) (some (.ret, (⟨(.junk :: .junk :: .junk :: .junk :: .junk :: .junk :: (.all 0 2) :: jA55), [(.rows 110 true t_ptt (h0.set x8.toNat ((h0.getD x8.toNat (bE, bE)).1, x2)))], 0, []⟩ : St))) none) (some (.normal, (⟨((.t false t_sptt x0) :: (.t true .str x1) :: (.t true .str x2) :: .junk :: .junk :: .junk :: .junk :: (.all 0 2) :: (.t true (.int .i64) (IntKind.wrap .i64 (x8 + (1 : Int)))) :: jA53), [(.rows 110 true t_ptt h0)], 0, []⟩ : St)))) none) (some ((.exit 0), (⟨((.t false t_sptt x0) :: (.t true .str x1) :: (.t true .str x2) :: jA59), [], 0, []⟩ : St))))
theorem rdA_sPutKey_0 : ∀ d, execC Try.prog tt S26 QF26 (fun _ _ => none) 0 body_sPutKey_0 (S_sPutKey_0.st d 0 []) (fun e s' => some (e, S_sPutKey_0.cutE (kepts [6] [(0, [0, 1, 2])]) e s')) = ox_sPutKey_0 d.1.1 d.1.2.1 d.1.2.2.1 d.1.2.2.2.2.2.2.2.2.1 d.2.1 := by
  intro d
  kernel_rfl
theorem rdB_sPutKey_0 : ∀ d : S_sPutKey_0.den, ox_sPutKey_0 d.1.1 d.1.2.1 d.1.2.2.1 d.1.2.2.2.2.2.2.2.2.1 d.2.1 = (sp_sPutKey_0 d).opt 0 [] := by
  intro d
  kernel_rfl
theorem rd_sPutKey_0 : ∀ d, execC Try.prog tt S26 QF26 (fun _ _ => none) 0 body_sPutKey_0 (S_sPutKey_0.st d 0 []) (fun e s' => some (e, S_sPutKey_0.cutE (kepts [6] [(0, [0, 1, 2])]) e s')) = (sp_sPutKey_0 d).opt 0 [] := fun d => (rdA_sPutKey_0 d).trans (rdB_sPutKey_0 d)
noncomputable abbrev say_sPutKey_0 : St → Option Tree := S_sPutKey_0.say 0 [] [] (fun d => T_sPutKey_0 d.1.1 d.1.2.1 d.1.2.2.1 d.1.2.2.2.2.2.2.2.2.1 d.2.1)
theorem lw_sPutKey_0 : LoopWp Try.prog say_sPutKey_0 body_sPutKey_0 := SS.wp G26 (fun _ _ => none) (by rw [show loopsIn 0 body_sPutKey_0 = [] by kernel_rfl]; simp) S_sPutKey_0 0 [] (kepts [6] [(0, [0, 1, 2])]) [] sp_sPutKey_0 rd_sPutKey_0 _ (fun d => R_sPutKey_0 d.1.1 d.1.2.1 d.1.2.2.1 d.1.2.2.2.2.2.2.2.2.1 d.2.1)
noncomputable abbrev S_sPutKey_1 : SS := ⟨(.t false t_sptt :: .t true .str :: .t true .str :: .junk :: .junk :: .junk :: .junk :: .junk :: .junk :: .t true (.int .i64) :: jS52), []⟩
noncomputable abbrev E_sPutKey_1_0 : SS := ⟨(.t false t_sptt :: .t true .str :: .t true .str :: .junk :: .junk :: .junk :: .junk :: .junk :: .junk :: .t true (.int .i64) :: jS52), []⟩
noncomputable def st_sPutKey_1 (x0 : LBBe) (x1 : ByteArray) (x2 : ByteArray) (x9 : Int) : RT S_sPutKey_1.den := (.br (decide (x9 < ((x0.length : Nat) : Int))) (.br (decide (0 ≤ x9 ∧ x9 < ((x0.length : Nat) : Int))) (.br (Op.bytesLess ((x0.getD x9.toNat (bE, bE)).1).toList x1.toList || (((x0.getD x9.toNat (bE, bE)).1).toList == x1.toList)) (.next ((x0, x1, x2, (), (), (), (), (), (), IntKind.wrap .i64 (x9 + (1 : Int)), u53), ())) (.done (.exit 2) E_sPutKey_1_0 ((x0, x1, x2, (), (), (), (), (), (), x9, u53), ()))) .fail) (.done (.exit 2) E_sPutKey_1_0 ((x0, x1, x2, (), (), (), (), (), (), x9, u53), ())))
noncomputable abbrev V_sPutKey_1 := (LBBe) × (ByteArray) × (ByteArray) × (Int)
noncomputable abbrev A_sPutKey_1 := Nat × (LBBe) × (ByteArray) × (ByteArray) × (Int)
noncomputable def fl_sPutKey_1 : A_sPutKey_1 := (99, ([] : LBBe), (bE : ByteArray), (bE : ByteArray), ((0 : Int) : Int))
noncomputable def ss_sPutKey_1 (x0 : LBBe) (x1 : ByteArray) (x2 : ByteArray) (x9 : Int) : V_sPutKey_1 ⊕ A_sPutKey_1 := (cond (decide (x9 < ((x0.length : Nat) : Int))) (cond (decide (0 ≤ x9 ∧ x9 < ((x0.length : Nat) : Int))) (cond (Op.bytesLess ((x0.getD x9.toNat (bE, bE)).1).toList x1.toList || (((x0.getD x9.toNat (bE, bE)).1).toList == x1.toList)) (.inl (x0, x1, x2, IntKind.wrap .i64 (x9 + (1 : Int)))) (.inr (0, x0, x1, x2, x9))) (.inr fl_sPutKey_1)) (.inr (0, x0, x1, x2, x9)))
noncomputable def it_sPutKey_1 (x0 : LBBe) (x1 : ByteArray) (x2 : ByteArray) (x9 : Int) : A_sPutKey_1 := itX (fun v : V_sPutKey_1 => ss_sPutKey_1 v.1 v.2.1 v.2.2.1 v.2.2.2) fl_sPutKey_1 (x0, x1, x2, x9)
noncomputable def ct_sPutKey_1 (a : A_sPutKey_1) : CT := (.br (a.1 == 0) (.done (.exit 2) E_sPutKey_1_0 ((a.2.1, a.2.2.1, a.2.2.2.1, (), (), (), (), (), (), a.2.2.2.2, u53), ())) .fail)
noncomputable def T_sPutKey_1 (x0 : LBBe) (x1 : ByteArray) (x2 : ByteArray) (x9 : Int) : CT := ct_sPutKey_1 (it_sPutKey_1 x0 x1 x2 x9)
noncomputable abbrev sp_sPutKey_1 : S_sPutKey_1.den → RT S_sPutKey_1.den := fun d => st_sPutKey_1 d.1.1 d.1.2.1 d.1.2.2.1 d.1.2.2.2.2.2.2.2.2.2.1
noncomputable abbrev pk_sPutKey_1 (x0 : LBBe) (x1 : ByteArray) (x2 : ByteArray) (x9 : Int) : S_sPutKey_1.den := ((x0, x1, x2, (), (), (), (), (), (), x9, u53), ())
noncomputable abbrev pv_sPutKey_1 (v : V_sPutKey_1) : S_sPutKey_1.den := pk_sPutKey_1 v.1 v.2.1 v.2.2.1 v.2.2.2
theorem R_sPutKey_1 (x0 : LBBe) (x1 : ByteArray) (x2 : ByteArray) (x9 : Int) : (T_sPutKey_1 x0 x1 x2 x9).val (D := S_sPutKey_1.den) = .fail ∨ Runs sp_sPutKey_1 (pk_sPutKey_1 x0 x1 x2 x9) (T_sPutKey_1 x0 x1 x2 x9).val := Runs.ofIt (step := sp_sPutKey_1) pv_sPutKey_1 (ct := ct_sPutKey_1) rfl (fun v => ((relB (relB (relB rfl rfl) rfl) rfl) : (st_sPutKey_1 v.1 v.2.1 v.2.2.1 v.2.2.2).val = relS pv_sPutKey_1 ct_sPutKey_1 (ss_sPutKey_1 v.1 v.2.1 v.2.2.1 v.2.2.2))) (fun a => ((cendB (cendD (by simp)) cendF) : CEnd _ (ct_sPutKey_1 a))) (x0, x1, x2, x9)
noncomputable def ox_sPutKey_1 (x0 : LBBe) (x1 : ByteArray) (x2 : ByteArray) (x9 : Int) : Option (Ex × St) := (cond (decide (x9 < ((x0.length : Nat) : Int))) (cond (decide (0 ≤ x9 ∧ x9 < ((x0.length : Nat) : Int))) (cond (Op.bytesLess ((x0.getD x9.toNat (bE, bE)).1).toList x1.toList || (((x0.getD x9.toNat (bE, bE)).1).toList == x1.toList)) (some (.normal, (⟨((.t false t_sptt x0) :: (.t true .str x1) :: (.t true .str x2) :: .junk :: .junk :: .junk :: .junk :: .junk :: .junk :: (.t true (.int .i64) (IntKind.wrap .i64 (x9 + (1 : Int)))) :: jA52), [], 0, []⟩ : St))) (some ((.exit 2), (⟨((.t false t_sptt x0) :: (.t true .str x1) :: (.t true .str x2) :: .junk :: .junk :: .junk :: .junk :: .junk :: .junk :: (.t true (.int .i64) x9) :: jA52), [], 0, []⟩ : St)))) none) (some ((.exit 2), (⟨((.t false t_sptt x0) :: (.t true .str x1) :: (.t true .str x2) :: .junk :: .junk :: .junk :: .junk :: .junk :: .junk :: (.t true (.int .i64) x9) :: jA52), [], 0, []⟩ : St))))
theorem rdA_sPutKey_1 : ∀ d, execC Try.prog tt S26 QF26 (fun _ _ => none) 2 body_sPutKey_1 (S_sPutKey_1.st d 0 []) (fun e s' => some (e, S_sPutKey_1.cutE (kepts [] [(2, [0, 1, 2, 9])]) e s')) = ox_sPutKey_1 d.1.1 d.1.2.1 d.1.2.2.1 d.1.2.2.2.2.2.2.2.2.2.1 := by
  intro d
  kernel_rfl
theorem rdB_sPutKey_1 : ∀ d : S_sPutKey_1.den, ox_sPutKey_1 d.1.1 d.1.2.1 d.1.2.2.1 d.1.2.2.2.2.2.2.2.2.2.1 = (sp_sPutKey_1 d).opt 0 [] := by
  intro d
  kernel_rfl
theorem rd_sPutKey_1 : ∀ d, execC Try.prog tt S26 QF26 (fun _ _ => none) 2 body_sPutKey_1 (S_sPutKey_1.st d 0 []) (fun e s' => some (e, S_sPutKey_1.cutE (kepts [] [(2, [0, 1, 2, 9])]) e s')) = (sp_sPutKey_1 d).opt 0 [] := fun d => (rdA_sPutKey_1 d).trans (rdB_sPutKey_1 d)
noncomputable abbrev say_sPutKey_1 : St → Option Tree := S_sPutKey_1.say 0 [] [] (fun d => T_sPutKey_1 d.1.1 d.1.2.1 d.1.2.2.1 d.1.2.2.2.2.2.2.2.2.2.1)
theorem lw_sPutKey_1 : LoopWp Try.prog say_sPutKey_1 body_sPutKey_1 := SS.wp G26 (fun _ _ => none) (by rw [show loopsIn 2 body_sPutKey_1 = [] by kernel_rfl]; simp) S_sPutKey_1 0 [] (kepts [] [(2, [0, 1, 2, 9])]) [] sp_sPutKey_1 rd_sPutKey_1 _ (fun d => R_sPutKey_1 d.1.1 d.1.2.1 d.1.2.2.1 d.1.2.2.2.2.2.2.2.2.2.1)
noncomputable def k1_sPutKey (a0 : LBBe) (a1 : ByteArray) (a2 : ByteArray) := it_sPutKey_1 ((it_sPutKey_0 a0 a1 a2 (0 : Int) (([] : LBBe) ++ a0)).2.2.1) ((it_sPutKey_0 a0 a1 a2 (0 : Int) (([] : LBBe) ++ a0)).2.2.2.1) ((it_sPutKey_0 a0 a1 a2 (0 : Int) (([] : LBBe) ++ a0)).2.2.2.2) (0 : Int)
noncomputable def sPutKey (a0 : LBBe) (a1 : ByteArray) (a2 : ByteArray) : LBBe := (cond ((it_sPutKey_0 a0 a1 a2 (0 : Int) (([] : LBBe) ++ a0)).1 == 0) ((it_sPutKey_0 a0 a1 a2 (0 : Int) (([] : LBBe) ++ a0)).2.1) (((([] : LBBe) ++ ((((k1_sPutKey a0 a1 a2).2.1).take ((k1_sPutKey a0 a1 a2).2.2.2.2).toNat).drop (0 : Int).toNat)) ++ [(((k1_sPutKey a0 a1 a2).2.2.1), ((k1_sPutKey a0 a1 a2).2.2.2.1))]) ++ ((((k1_sPutKey a0 a1 a2).2.1).take ((((k1_sPutKey a0 a1 a2).2.1).length : Nat) : Int).toNat).drop ((k1_sPutKey a0 a1 a2).2.2.2.2).toNat)))
noncomputable abbrev e_sPutKey (r : LBBe) : AV × List AObj := ((.all 0 2), [(.rows 110 true t_ptt r)])
noncomputable abbrev F_sPutKey (r : LBBe) := some (e_sPutKey r)
noncomputable abbrev g_sPutKey : pshsDen P_sPutKey → AV × List AObj := fun d => e_sPutKey (sPutKey d.1 d.2.1 d.2.2.1)
noncomputable def q_sPutKey (a0 : LBBe) (a1 : ByteArray) (a2 : ByteArray) : Bool := (decide ((([] : LBBe).length + a0.length) * 32 ≤ MAXB)) && (cond ((it_sPutKey_0 a0 a1 a2 (0 : Int) (([] : LBBe) ++ a0)).1 == 0) true (((it_sPutKey_0 a0 a1 a2 (0 : Int) (([] : LBBe) ++ a0)).1 == 1) && (((k1_sPutKey a0 a1 a2).1 == 0) && ((decide (0 ≤ (0 : Int) ∧ (0 : Int) ≤ ((k1_sPutKey a0 a1 a2).2.2.2.2) ∧ ((k1_sPutKey a0 a1 a2).2.2.2.2) ≤ ((((k1_sPutKey a0 a1 a2).2.1).length : Nat) : Int))) && ((decide ((([] : LBBe).length + ((((k1_sPutKey a0 a1 a2).2.1).take ((k1_sPutKey a0 a1 a2).2.2.2.2).toNat).drop (0 : Int).toNat).length) * 32 ≤ MAXB)) && ((decide (((([] : LBBe) ++ ((((k1_sPutKey a0 a1 a2).2.1).take ((k1_sPutKey a0 a1 a2).2.2.2.2).toNat).drop (0 : Int).toNat)).length + [(((k1_sPutKey a0 a1 a2).2.2.1), ((k1_sPutKey a0 a1 a2).2.2.2.1))].length) * 32 ≤ MAXB)) && ((decide (0 ≤ ((k1_sPutKey a0 a1 a2).2.2.2.2) ∧ ((k1_sPutKey a0 a1 a2).2.2.2.2) ≤ ((((k1_sPutKey a0 a1 a2).2.1).length : Nat) : Int) ∧ ((((k1_sPutKey a0 a1 a2).2.1).length : Nat) : Int) ≤ ((((k1_sPutKey a0 a1 a2).2.1).length : Nat) : Int))) && (decide ((((([] : LBBe) ++ ((((k1_sPutKey a0 a1 a2).2.1).take ((k1_sPutKey a0 a1 a2).2.2.2.2).toNat).drop (0 : Int).toNat)) ++ [(((k1_sPutKey a0 a1 a2).2.2.1), ((k1_sPutKey a0 a1 a2).2.2.2.1))]).length + ((((k1_sPutKey a0 a1 a2).2.1).take ((((k1_sPutKey a0 a1 a2).2.1).length : Nat) : Int).toNat).drop ((k1_sPutKey a0 a1 a2).2.2.2.2).toNat).length) * 32 ≤ MAXB)))))))))
noncomputable abbrev pre_sPutKey : pshsDen P_sPutKey → Bool := fun d => q_sPutKey d.1 d.2.1 d.2.2.1
theorem runA_sPutKey (a0 : LBBe) (a1 : ByteArray) (a2 : ByteArray) (hp : q_sPutKey a0 a1 a2 = true) : runP false Try.prog tt S26 QF26 (fun b => match b with | 0 => say_sPutKey_0 | 2 => say_sPutKey_1 | _ => fun _ => none) Try.f159 (argsMk P_sPutKey (a0, (a1, (a2, ())))) = some (g_sPutKey (a0, (a1, (a2, ())))) := by
  unfold q_sPutKey at hp
  refine Eq.trans (b := (cond (decide ((([] : LBBe).length + a0.length) * 32 ≤ MAXB)) (cond ((it_sPutKey_0 a0 a1 a2 (0 : Int) (([] : LBBe) ++ a0)).1 == 0) (some (e_sPutKey ((it_sPutKey_0 a0 a1 a2 (0 : Int) (([] : LBBe) ++ a0)).2.1))) (cond ((it_sPutKey_0 a0 a1 a2 (0 : Int) (([] : LBBe) ++ a0)).1 == 1) (cond ((k1_sPutKey a0 a1 a2).1 == 0) (cond (decide (0 ≤ (0 : Int) ∧ (0 : Int) ≤ ((k1_sPutKey a0 a1 a2).2.2.2.2) ∧ ((k1_sPutKey a0 a1 a2).2.2.2.2) ≤ ((((k1_sPutKey a0 a1 a2).2.1).length : Nat) : Int))) (cond (decide ((([] : LBBe).length + ((((k1_sPutKey a0 a1 a2).2.1).take ((k1_sPutKey a0 a1 a2).2.2.2.2).toNat).drop (0 : Int).toNat).length) * 32 ≤ MAXB)) (cond (decide (((([] : LBBe) ++ ((((k1_sPutKey a0 a1 a2).2.1).take ((k1_sPutKey a0 a1 a2).2.2.2.2).toNat).drop (0 : Int).toNat)).length + [(((k1_sPutKey a0 a1 a2).2.2.1), ((k1_sPutKey a0 a1 a2).2.2.2.1))].length) * 32 ≤ MAXB)) (cond (decide (0 ≤ ((k1_sPutKey a0 a1 a2).2.2.2.2) ∧ ((k1_sPutKey a0 a1 a2).2.2.2.2) ≤ ((((k1_sPutKey a0 a1 a2).2.1).length : Nat) : Int) ∧ ((((k1_sPutKey a0 a1 a2).2.1).length : Nat) : Int) ≤ ((((k1_sPutKey a0 a1 a2).2.1).length : Nat) : Int))) (cond (decide ((((([] : LBBe) ++ ((((k1_sPutKey a0 a1 a2).2.1).take ((k1_sPutKey a0 a1 a2).2.2.2.2).toNat).drop (0 : Int).toNat)) ++ [(((k1_sPutKey a0 a1 a2).2.2.1), ((k1_sPutKey a0 a1 a2).2.2.2.1))]).length + ((((k1_sPutKey a0 a1 a2).2.1).take ((((k1_sPutKey a0 a1 a2).2.1).length : Nat) : Int).toNat).drop ((k1_sPutKey a0 a1 a2).2.2.2.2).toNat).length) * 32 ≤ MAXB)) (some (e_sPutKey (((([] : LBBe) ++ ((((k1_sPutKey a0 a1 a2).2.1).take ((k1_sPutKey a0 a1 a2).2.2.2.2).toNat).drop (0 : Int).toNat)) ++ [(((k1_sPutKey a0 a1 a2).2.2.1), ((k1_sPutKey a0 a1 a2).2.2.2.1))]) ++ ((((k1_sPutKey a0 a1 a2).2.1).take ((((k1_sPutKey a0 a1 a2).2.1).length : Nat) : Int).toNat).drop ((k1_sPutKey a0 a1 a2).2.2.2.2).toNat)))) none) none) none) none) none) none) none)) none)) (by kernel_rfl) ?_
  exact (cndA hp fun hp => (cndQ (F := F_sPutKey) hp (fun hp => rfl) (fun hp => (cndA hp fun hp => (cndA hp fun hp => (cndA hp fun hp => (cndA hp fun hp => (cndA hp fun hp => (cndA hp fun hp => (cndT hp fun _h => rfl))))))))))
theorem run_sPutKey : ∀ d, pre_sPutKey d = true → runP false Try.prog tt S26 QF26 (fun b => match b with | 0 => say_sPutKey_0 | 2 => say_sPutKey_1 | _ => fun _ => none) Try.f159 (argsMk P_sPutKey d) = some (g_sPutKey d) := fun d hp => runA_sPutKey d.1 d.2.1 d.2.2.1 hp
theorem c_sPutKey : PContract Try.prog 159 (sumOf P_sPutKey pre_sPutKey g_sPutKey) := PContract.of_data false G26 (fn := Try.f159) (by kernel_rfl) (L := fun b => match b with | 0 => say_sPutKey_0 | 2 => say_sPutKey_1 | _ => fun _ => none) (by
    rw [show loopsIn 0 (bodyOf Try.f159) = [(0, body_sPutKey_0), (2, body_sPutKey_1)] by kernel_rfl]; intro p hp; simp only [List.mem_cons, List.mem_nil_iff, or_false] at hp
    rcases hp with rfl | rfl
    · exact lw_sPutKey_0
    · exact lw_sPutKey_1) P_sPutKey pre_sPutKey g_sPutKey run_sPutKey
noncomputable def S27 : Tab := Tab.add S26 159 (lift (sumOf P_sPutKey pre_sPutKey g_sPutKey))
noncomputable def QF27 : FuncId → Bool := QF26
theorem G27 : Good Try.prog tt S27 QF27 := G26.add c_sPutKey ⟨Try.f159, by kernel_rfl, by kernel_rfl, by kernel_rfl⟩ (by kernel_rfl)

/-! 160 loop.example/g00244/spec.DelKey -/
noncomputable abbrev u30 := ((), (), (), u27)
noncomputable abbrev P_sDelKey : List PSh := [.t t_sptt, .t .str]
noncomputable abbrev S_sDelKey_0 : SS := ⟨(.t false t_sptt :: .t true .str :: .junk :: .junk :: .junk :: .all 0 2 :: .t true (.int .i64) :: jS22), [.rows 110 true t_ptt]⟩
noncomputable abbrev E_sDelKey_0_0 : SS := ⟨(.junk :: .junk :: .junk :: .junk :: .junk :: .all 0 2 :: jS23), [.rows 110 true t_ptt]⟩
noncomputable def st_sDelKey_0 (x0 : LBBe) (x1 : ByteArray) (x6 : Int) (h0 : LBBe) : RT S_sDelKey_0.den := (.br (decide (x6 < ((x0.length : Nat) : Int))) (.br (decide (0 ≤ x6 ∧ x6 < ((x0.length : Nat) : Int))) (.br (!(((x0.getD x6.toNat (bE, bE)).1).toList == x1.toList)) (.br (decide (0 ≤ x6 ∧ x6 < ((x0.length : Nat) : Int))) (.br (decide ((h0.length + ([((x0.getD x6.toNat (bE, bE)).1, (x0.getD x6.toNat (bE, bE)).2)]).length) * 32 ≤ MAXB)) (.next ((x0, x1, (), (), (), (), IntKind.wrap .i64 (x6 + (1 : Int)), u23), (h0 ++ ([((x0.getD x6.toNat (bE, bE)).1, (x0.getD x6.toNat (bE, bE)).2)]), ()))) .fail) .fail) (.next ((x0, x1, (), (), (), (), IntKind.wrap .i64 (x6 + (1 : Int)), u23), (h0, ())))) .fail) (.done (.exit 0) E_sDelKey_0_0 ((u30), (h0, ()))))
noncomputable abbrev V_sDelKey_0 := (LBBe) × (ByteArray) × (Int) × (LBBe)
noncomputable abbrev A_sDelKey_0 := Nat × (LBBe)
noncomputable def fl_sDelKey_0 : A_sDelKey_0 := (99, ([] : LBBe))
noncomputable def ss_sDelKey_0 (x0 : LBBe) (x1 : ByteArray) (x6 : Int) (h0 : LBBe) : V_sDelKey_0 ⊕ A_sDelKey_0 := (cond (decide (x6 < ((x0.length : Nat) : Int))) (cond (decide (0 ≤ x6 ∧ x6 < ((x0.length : Nat) : Int))) (cond (!(((x0.getD x6.toNat (bE, bE)).1).toList == x1.toList)) (cond (decide (0 ≤ x6 ∧ x6 < ((x0.length : Nat) : Int))) (cond (decide ((h0.length + ([((x0.getD x6.toNat (bE, bE)).1, (x0.getD x6.toNat (bE, bE)).2)]).length) * 32 ≤ MAXB)) (.inl (x0, x1, IntKind.wrap .i64 (x6 + (1 : Int)), h0 ++ ([((x0.getD x6.toNat (bE, bE)).1, (x0.getD x6.toNat (bE, bE)).2)]))) (.inr fl_sDelKey_0)) (.inr fl_sDelKey_0)) (.inl (x0, x1, IntKind.wrap .i64 (x6 + (1 : Int)), h0))) (.inr fl_sDelKey_0)) (.inr (0, h0)))
noncomputable def it_sDelKey_0 (x0 : LBBe) (x1 : ByteArray) (x6 : Int) (h0 : LBBe) : A_sDelKey_0 := itX (fun v : V_sDelKey_0 => ss_sDelKey_0 v.1 v.2.1 v.2.2.1 v.2.2.2) fl_sDelKey_0 (x0, x1, x6, h0)
noncomputable def ct_sDelKey_0 (a : A_sDelKey_0) : CT := (.br (a.1 == 0) (.done (.exit 0) E_sDelKey_0_0 ((u30), (a.2, ()))) .fail)
noncomputable def T_sDelKey_0 (x0 : LBBe) (x1 : ByteArray) (x6 : Int) (h0 : LBBe) : CT := ct_sDelKey_0 (it_sDelKey_0 x0 x1 x6 h0)
noncomputable abbrev sp_sDelKey_0 : S_sDelKey_0.den → RT S_sDelKey_0.den := fun d => st_sDelKey_0 d.1.1 d.1.2.1 d.1.2.2.2.2.2.2.1 d.2.1
noncomputable abbrev pk_sDelKey_0 (x0 : LBBe) (x1 : ByteArray) (x6 : Int) (h0 : LBBe) : S_sDelKey_0.den := ((x0, x1, (), (), (), (), x6, u23), (h0, ()))
noncomputable def body_sDelKey_0 : Code := ((loopsIn 0 (bodyOf Try.f160)).getD 0 (0, .skip)).2
noncomputable abbrev pv_sDelKey_0 (v : V_sDelKey_0) : S_sDelKey_0.den := pk_sDelKey_0 v.1 v.2.1 v.2.2.1 v.2.2.2
theorem R_sDelKey_0 (x0 : LBBe) (x1 : ByteArray) (x6 : Int) (h0 : LBBe) : (T_sDelKey_0 x0 x1 x6 h0).val (D := S_sDelKey_0.den) = .fail ∨ Runs sp_sDelKey_0 (pk_sDelKey_0 x0 x1 x6 h0) (T_sDelKey_0 x0 x1 x6 h0).val := Runs.ofIt (step := sp_sDelKey_0) pv_sDelKey_0 (ct := ct_sDelKey_0) rfl (fun v => ((relB (relB (relB (relB (relB rfl rfl) rfl) rfl) rfl) rfl) : (st_sDelKey_0 v.1 v.2.1 v.2.2.1 v.2.2.2).val = relS pv_sDelKey_0 ct_sDelKey_0 (ss_sDelKey_0 v.1 v.2.1 v.2.2.1 v.2.2.2))) (fun a => ((cendB (cendD (by simp)) cendF) : CEnd _ (ct_sDelKey_0 a))) (x0, x1, x6, h0)
theorem rd_sDelKey_0 : ∀ d, execC Try.prog tt S27 QF27 (fun _ _ => none) 0 body_sDelKey_0 (S_sDelKey_0.st d 0 []) (fun e s' => some (e, S_sDelKey_0.cutE (kepts [] [(0, [5])]) e s')) = (sp_sDelKey_0 d).opt 0 [] := by
  intro d
  kernel_rfl
noncomputable abbrev say_sDelKey_0 : St → Option Tree := S_sDelKey_0.say 0 [] [] (fun d => T_sDelKey_0 d.1.1 d.1.2.1 d.1.2.2.2.2.2.2.1 d.2.1)
theorem lw_sDelKey_0 : LoopWp Try.prog say_sDelKey_0 body_sDelKey_0 := SS.wp G27 (fun _ _ => none) (by rw [show loopsIn 0 body_sDelKey_0 = [] by kernel_rfl]; simp) S_sDelKey_0 0 [] (kepts [] [(0, [5])]) [] sp_sDelKey_0 rd_sDelKey_0 _ (fun d => R_sDelKey_0 d.1.1 d.1.2.1 d.1.2.2.2.2.2.2.1 d.2.1)
noncomputable def sDelKey (a0 : LBBe) (a1 : ByteArray) : LBBe := ((it_sDelKey_0 a0 a1 (0 : Int) ([] : LBBe)).2)
noncomputable abbrev e_sDelKey (r : LBBe) : AV × List AObj := ((.all 0 2), [(.rows 110 true t_ptt r)])
noncomputable abbrev F_sDelKey (r : LBBe) := some (e_sDelKey r)
noncomputable abbrev g_sDelKey : pshsDen P_sDelKey → AV × List AObj := fun d => e_sDelKey (sDelKey d.1 d.2.1)
noncomputable def q_sDelKey (a0 : LBBe) (a1 : ByteArray) : Bool := ((it_sDelKey_0 a0 a1 (0 : Int) ([] : LBBe)).1 == 0)
noncomputable abbrev pre_sDelKey : pshsDen P_sDelKey → Bool := fun d => q_sDelKey d.1 d.2.1
theorem runA_sDelKey (a0 : LBBe) (a1 : ByteArray) (hp : q_sDelKey a0 a1 = true) : runP false Try.prog tt S27 QF27 (fun b => match b with | 0 => say_sDelKey_0 | _ => fun _ => none) Try.f160 (argsMk P_sDelKey (a0, (a1, ()))) = some (g_sDelKey (a0, (a1, ()))) := by
  unfold q_sDelKey at hp
  refine Eq.trans (b := (cond ((it_sDelKey_0 a0 a1 (0 : Int) ([] : LBBe)).1 == 0) (some (e_sDelKey ((it_sDelKey_0 a0 a1 (0 : Int) ([] : LBBe)).2))) none)) (by kernel_rfl) ?_
  exact (cndT hp fun _h => rfl)
theorem run_sDelKey : ∀ d, pre_sDelKey d = true → runP false Try.prog tt S27 QF27 (fun b => match b with | 0 => say_sDelKey_0 | _ => fun _ => none) Try.f160 (argsMk P_sDelKey d) = some (g_sDelKey d) := fun d hp => runA_sDelKey d.1 d.2.1 hp
theorem c_sDelKey : PContract Try.prog 160 (sumOf P_sDelKey pre_sDelKey g_sDelKey) := PContract.of_data false G27 (fn := Try.f160) (by kernel_rfl) (L := fun b => match b with | 0 => say_sDelKey_0 | _ => fun _ => none) (by rw [show loopsIn 0 (bodyOf Try.f160) = [(0, body_sDelKey_0)] by kernel_rfl]; intro p hp; simp only [List.mem_singleton] at hp; subst hp; exact lw_sDelKey_0) P_sDelKey pre_sDelKey g_sDelKey run_sDelKey
noncomputable def S28 : Tab := Tab.add S27 160 (lift (sumOf P_sDelKey pre_sDelKey g_sDelKey))
noncomputable def QF28 : FuncId → Bool := QF27
theorem G28 : Good Try.prog tt S28 QF28 := G27.add c_sDelKey ⟨Try.f160, by kernel_rfl, by kernel_rfl, by kernel_rfl⟩ (by kernel_rfl)

/-! 129 loop.example/g00244/spec.Apply -/
noncomputable abbrev P_sApply : List PSh := [.t t_sptt, .t t_spiptt]
noncomputable abbrev S_sApply_0 : SS := ⟨(.junk :: .t false t_spiptt :: .junk :: .junk :: .junk :: .all 0 2 :: .t true (.int .i64) :: jS38), [.rows 110 true t_ptt]⟩
noncomputable abbrev E_sApply_0_0 : SS := ⟨(.junk :: .junk :: .junk :: .junk :: .junk :: .all 0 2 :: jS39), [.rows 110 true t_ptt]⟩
noncomputable def k1_sApply (x1 : LIBBe) (x6 : Int) (h0 : LBBe) := sPutKey h0 (((x1.getD x6.toNat ((0 : Int), (bE, bE))).2).1) (((x1.getD x6.toNat ((0 : Int), (bE, bE))).2).2)
noncomputable def k2_sApply (x1 : LIBBe) (x6 : Int) (h0 : LBBe) := sDelKey h0 (((x1.getD x6.toNat ((0 : Int), (bE, bE))).2).1)
noncomputable def st_sApply_0 (x1 : LIBBe) (x6 : Int) (h0 : LBBe) : RT S_sApply_0.den := (.br (decide (x6 < ((x1.length : Nat) : Int))) (.br (decide (0 ≤ x6 ∧ x6 < ((x1.length : Nat) : Int))) (.br (((x1.getD x6.toNat ((0 : Int), (bE, bE))).1) == (1 : Int)) (.br (decide (0 ≤ x6 ∧ x6 < ((x1.length : Nat) : Int))) (.br (decide (0 ≤ x6 ∧ x6 < ((x1.length : Nat) : Int))) (.br (q_sPutKey h0 (((x1.getD x6.toNat ((0 : Int), (bE, bE))).2).1) (((x1.getD x6.toNat ((0 : Int), (bE, bE))).2).2)) (.next (((), x1, (), (), (), (), IntKind.wrap .i64 (x6 + (1 : Int)), u39), ((k1_sApply x1 x6 h0), ()))) .fail) .fail) .fail) (.br (((x1.getD x6.toNat ((0 : Int), (bE, bE))).1) == (2 : Int)) (.br (decide (0 ≤ x6 ∧ x6 < ((x1.length : Nat) : Int))) (.br (q_sDelKey h0 (((x1.getD x6.toNat ((0 : Int), (bE, bE))).2).1)) (.next (((), x1, (), (), (), (), IntKind.wrap .i64 (x6 + (1 : Int)), u39), ((k2_sApply x1 x6 h0), ()))) .fail) .fail) (.next (((), x1, (), (), (), (), IntKind.wrap .i64 (x6 + (1 : Int)), u39), (h0, ()))))) .fail) (.done (.exit 0) E_sApply_0_0 ((u46), (h0, ()))))
noncomputable abbrev V_sApply_0 := (LIBBe) × (Int) × (LBBe)
noncomputable abbrev A_sApply_0 := Nat × (LBBe)
noncomputable def fl_sApply_0 : A_sApply_0 := (99, ([] : LBBe))
noncomputable def ss_sApply_0 (x1 : LIBBe) (x6 : Int) (h0 : LBBe) : V_sApply_0 ⊕ A_sApply_0 := (cond (decide (x6 < ((x1.length : Nat) : Int))) (cond (decide (0 ≤ x6 ∧ x6 < ((x1.length : Nat) : Int))) (cond (((x1.getD x6.toNat ((0 : Int), (bE, bE))).1) == (1 : Int)) (cond (decide (0 ≤ x6 ∧ x6 < ((x1.length : Nat) : Int))) (cond (decide (0 ≤ x6 ∧ x6 < ((x1.length : Nat) : Int))) (cond (q_sPutKey h0 (((x1.getD x6.toNat ((0 : Int), (bE, bE))).2).1) (((x1.getD x6.toNat ((0 : Int), (bE, bE))).2).2)) (.inl (x1, IntKind.wrap .i64 (x6 + (1 : Int)), (k1_sApply x1 x6 h0))) (.inr fl_sApply_0)) (.inr fl_sApply_0)) (.inr fl_sApply_0)) (cond (((x1.getD x6.toNat ((0 : Int), (bE, bE))).1) == (2 : Int)) (cond (decide (0 ≤ x6 ∧ x6 < ((x1.length : Nat) : Int))) (cond (q_sDelKey h0 (((x1.getD x6.toNat ((0 : Int), (bE, bE))).2).1)) (.inl (x1, IntKind.wrap .i64 (x6 + (1 : Int)), (k2_sApply x1 x6 h0))) (.inr fl_sApply_0)) (.inr fl_sApply_0)) (.inl (x1, IntKind.wrap .i64 (x6 + (1 : Int)), h0)))) (.inr fl_sApply_0)) (.inr (0, h0)))
noncomputable def it_sApply_0 (x1 : LIBBe) (x6 : Int) (h0 : LBBe) : A_sApply_0 := itX (fun v : V_sApply_0 => ss_sApply_0 v.1 v.2.1 v.2.2) fl_sApply_0 (x1, x6, h0)
noncomputable def ct_sApply_0 (a : A_sApply_0) : CT := (.br (a.1 == 0) (.done (.exit 0) E_sApply_0_0 ((u46), (a.2, ()))) .fail)
noncomputable def T_sApply_0 (x1 : LIBBe) (x6 : Int) (h0 : LBBe) : CT := ct_sApply_0 (it_sApply_0 x1 x6 h0)
noncomputable abbrev sp_sApply_0 : S_sApply_0.den → RT S_sApply_0.den := fun d => st_sApply_0 d.1.2.1 d.1.2.2.2.2.2.2.1 d.2.1
noncomputable abbrev pk_sApply_0 (x1 : LIBBe) (x6 : Int) (h0 : LBBe) : S_sApply_0.den := (((), x1, (), (), (), (), x6, u39), (h0, ()))
noncomputable def body_sApply_0 : Code := ((loopsIn 0 (bodyOf Try.f129)).getD 0 (0, .skip)).2
noncomputable abbrev pv_sApply_0 (v : V_sApply_0) : S_sApply_0.den := pk_sApply_0 v.1 v.2.1 v.2.2
theorem R_sApply_0 (x1 : LIBBe) (x6 : Int) (h0 : LBBe) : (T_sApply_0 x1 x6 h0).val (D := S_sApply_0.den) = .fail ∨ Runs sp_sApply_0 (pk_sApply_0 x1 x6 h0) (T_sApply_0 x1 x6 h0).val := Runs.ofIt (step := sp_sApply_0) pv_sApply_0 (ct := ct_sApply_0) rfl (fun v => ((relB (relB (relB (relB (relB (relB rfl rfl) rfl) rfl) (relB (relB (relB rfl rfl) rfl) rfl)) rfl) rfl) : (st_sApply_0 v.1 v.2.1 v.2.2).val = relS pv_sApply_0 ct_sApply_0 (ss_sApply_0 v.1 v.2.1 v.2.2))) (fun a => ((cendB (cendD (by simp)) cendF) : CEnd _ (ct_sApply_0 a))) (x1, x6, h0)
noncomputable def ox_sApply_0 (x1 : LIBBe) (x6 : Int) (h0 : LBBe) : Option (Ex × St) := (cond (decide (x6 < ((x1.length : Nat) : Int))) (cond (decide (0 ≤ x6 ∧ x6 < ((x1.length : Nat) : Int))) (cond (((x1.getD x6.toNat ((0 : Int), (bE, bE))).1) == (1 : Int)) (cond (decide (0 ≤ x6 ∧ x6 < ((x1.length : Nat) : Int))) (cond (decide (0 ≤ x6 ∧ x6 < ((x1.length : Nat) : Int))) (cond (q_sPutKey h0 (((x1.getD x6.toNat ((0 : Int), (bE, bE))).2).1) (((x1.getD x6.toNat ((0 : Int), (bE, bE))).2).2)) (some (.normal, (⟨(.junk :: (.t false t_spiptt x1) :: .junk :: .junk :: .junk :: (.all 0 2) :: (.t true (.int .i64) (IntKind.wrap .i64 (x6 + (1 : Int)))) :: jA38), [(.rows 110 true t_ptt (k1_sApply x1 x6 h0))], 0, []⟩ : St))) none) none) none) (cond (((x1.getD x6.toNat ((0 : Int), (bE, bE))).1) == (2 : Int)) (cond (decide (0 ≤ x6 ∧ x6 < ((x1.length : Nat) : Int))) (cond (q_sDelKey h0 (((x1.getD x6.toNat ((0 : Int), (bE, bE))).2).1)) (some (.normal, (⟨(.junk :: (.t false t_spiptt x1) :: .junk :: .junk :: .junk :: (.all 0 2) :: (.t true (.int .i64) (IntKind.wrap .i64 (x6 + (1 : Int)))) :: jA38), [(.rows 110 true t_ptt (k2_sApply x1 x6 h0))], 0, []⟩ : St))) none) none) (some (.normal, (⟨(.junk :: (.t false t_spiptt x1) :: .junk :: .junk :: .junk :: (.all 0 2) :: (.t true (.int .i64) (IntKind.wrap .i64 (x6 + (1 : Int)))) :: jA38), [(.rows 110 true t_ptt h0)], 0, []⟩ : St))))) none) (some ((.exit 0), (⟨(.junk :: .junk :: .junk :: .junk :: .junk :: (.all 0 2) :: jA39), [(.rows 110 true t_ptt h0)], 0, []⟩ : St))))
theorem rdA_sApply_0 : ∀ d, execC Try.prog tt S28 QF28 (fun _ _ => none) 0 body_sApply_0 (S_sApply_0.st d 0 []) (fun e s' => some (e, S_sApply_0.cutE (kepts [] [(0, [5])]) e s')) = ox_sApply_0 d.1.2.1 d.1.2.2.2.2.2.2.1 d.2.1 := by
  intro d
  kernel_rfl
theorem rdB_sApply_0 : ∀ d : S_sApply_0.den, ox_sApply_0 d.1.2.1 d.1.2.2.2.2.2.2.1 d.2.1 = (sp_sApply_0 d).opt 0 [] := by
  intro d
  kernel_rfl
theorem rd_sApply_0 : ∀ d, execC Try.prog tt S28 QF28 (fun _ _ => none) 0 body_sApply_0 (S_sApply_0.st d 0 []) (fun e s' => some (e, S_sApply_0.cutE (kepts [] [(0, [5])]) e s')) = (sp_sApply_0 d).opt 0 [] := fun d => (rdA_sApply_0 d).trans (rdB_sApply_0 d)
noncomputable abbrev say_sApply_0 : St → Option Tree := S_sApply_0.say 0 [] [] (fun d => T_sApply_0 d.1.2.1 d.1.2.2.2.2.2.2.1 d.2.1)
theorem lw_sApply_0 : LoopWp Try.prog say_sApply_0 body_sApply_0 := SS.wp G28 (fun _ _ => none) (by rw [show loopsIn 0 body_sApply_0 = [] by kernel_rfl]; simp) S_sApply_0 0 [] (kepts [] [(0, [5])]) [] sp_sApply_0 rd_sApply_0 _ (fun d => R_sApply_0 d.1.2.1 d.1.2.2.2.2.2.2.1 d.2.1)
noncomputable def sApply (a0 : LBBe) (a1 : LIBBe) : LBBe := ((it_sApply_0 a1 (0 : Int) (([] : LBBe) ++ a0)).2)
noncomputable abbrev e_sApply (r : LBBe) : AV × List AObj := ((.all 0 2), [(.rows 110 true t_ptt r)])
noncomputable abbrev F_sApply (r : LBBe) := some (e_sApply r)
noncomputable abbrev g_sApply : pshsDen P_sApply → AV × List AObj := fun d => e_sApply (sApply d.1 d.2.1)
noncomputable def q_sApply (a0 : LBBe) (a1 : LIBBe) : Bool := (decide ((([] : LBBe).length + a0.length) * 32 ≤ MAXB)) && ((it_sApply_0 a1 (0 : Int) (([] : LBBe) ++ a0)).1 == 0)
noncomputable abbrev pre_sApply : pshsDen P_sApply → Bool := fun d => q_sApply d.1 d.2.1
theorem runA_sApply (a0 : LBBe) (a1 : LIBBe) (hp : q_sApply a0 a1 = true) : runP false Try.prog tt S28 QF28 (fun b => match b with | 0 => say_sApply_0 | _ => fun _ => none) Try.f129 (argsMk P_sApply (a0, (a1, ()))) = some (g_sApply (a0, (a1, ()))) := by
  unfold q_sApply at hp
  refine Eq.trans (b := (cond (decide ((([] : LBBe).length + a0.length) * 32 ≤ MAXB)) (cond ((it_sApply_0 a1 (0 : Int) (([] : LBBe) ++ a0)).1 == 0) (some (e_sApply ((it_sApply_0 a1 (0 : Int) (([] : LBBe) ++ a0)).2))) none) none)) (by kernel_rfl) ?_
  exact (cndA hp fun hp => (cndT hp fun _h => rfl))
theorem run_sApply : ∀ d, pre_sApply d = true → runP false Try.prog tt S28 QF28 (fun b => match b with | 0 => say_sApply_0 | _ => fun _ => none) Try.f129 (argsMk P_sApply d) = some (g_sApply d) := fun d hp => runA_sApply d.1 d.2.1 hp
theorem c_sApply : PContract Try.prog 129 (sumOf P_sApply pre_sApply g_sApply) := PContract.of_data false G28 (fn := Try.f129) (by kernel_rfl) (L := fun b => match b with | 0 => say_sApply_0 | _ => fun _ => none) (by rw [show loopsIn 0 (bodyOf Try.f129) = [(0, body_sApply_0)] by kernel_rfl]; intro p hp; simp only [List.mem_singleton] at hp; subst hp; exact lw_sApply_0) P_sApply pre_sApply g_sApply run_sApply
noncomputable def S29 : Tab := Tab.add S28 129 (lift (sumOf P_sApply pre_sApply g_sApply))
noncomputable def QF29 : FuncId → Bool := QF28
theorem G29 : Good Try.prog tt S29 QF29 := G28.add c_sApply ⟨Try.f129, by kernel_rfl, by kernel_rfl, by kernel_rfl⟩ (by kernel_rfl)

/-! 87 loop.example/g00244/spec.l8One -/
noncomputable abbrev SM_sl8One : SS := ⟨[.ptr 0 0 1 0, .agg [.t true (.int .i64), .t true (.int .i64), .t false t_spiptt]], [.box [.all 1 2, .all 2 3, .nil], .rows 110 true t_ptt, .rows 30 true t_pipispiptt]⟩
noncomputable def sl8One (x1_0 : Int) (x1_1 : Int) (x1_2 : LIBBe) (h1 : LBBe) (h2 : LIILIBBee) : Bool × (LBBe) × (LIILIBBee) × List Int := (cond (!(sRecOk x1_0 x1_1 x1_2)) (false, h1, h2, ([] : List Int)) (cond (x1_0 == (1 : Int)) (cond (sl7Has [] x1_1) (false, h1, h2, ([] : List Int)) (cond (sl8Locked h2 x1_2) (false, h1, h2, ([] : List Int)) (cond (!(sMeets h1 x1_2)) (false, h1, h2, ([] : List Int)) (true, h1, h2 ++ [(((sl8CopyRec x1_0 x1_1 x1_2).1), (((sl8CopyRec x1_0 x1_1 x1_2).2.1), ((sl8CopyRec x1_0 x1_1 x1_2).2.2)))], [x1_1])))) (cond (decide ((sl8At h2 x1_1) < (0 : Int))) (cond (x1_0 == (3 : Int)) (!(sl7Has [] x1_1), h1, h2, [x1_1]) (false, h1, h2, [x1_1])) (cond (x1_0 == (2 : Int)) (decide ((((sApply h1 (((h2.getD ((sl8At h2 x1_1).toNat) ((0 : Int), ((0 : Int), []))).2).2)).length : Nat) : Int) ≤ (60 : Int)), (sApply h1 (((h2.getD ((sl8At h2 x1_1).toNat) ((0 : Int), ((0 : Int), []))).2).2)), (([] : LIILIBBee) ++ (h2.take ((sl8At h2 x1_1).toNat))) ++ ((h2.drop ((IntKind.wrap .i64 ((sl8At h2 x1_1) + (1 : Int))).toNat)).take (((h2.length : Nat) : Int).toNat - (IntKind.wrap .i64 ((sl8At h2 x1_1) + (1 : Int))).toNat)), ([] : List Int)) (decide (((h1.length : Nat) : Int) ≤ (60 : Int)), h1, (([] : LIILIBBee) ++ (h2.take ((sl8At h2 x1_1).toNat))) ++ ((h2.drop ((IntKind.wrap .i64 ((sl8At h2 x1_1) + (1 : Int))).toNat)).take (((h2.length : Nat) : Int).toNat - (IntKind.wrap .i64 ((sl8At h2 x1_1) + (1 : Int))).toNat)), ([] : List Int))))))
noncomputable abbrev e_sl8One (r : Bool × (LBBe) × (LIILIBBee) × List Int) : AV × List AObj × List Nat := ((.t true .bool r.1), [(.box [(.all 1 2), (.all 2 3), (.all 3 1)]), (.rows 110 true t_ptt r.2.1), (.rows 30 true t_pipispiptt r.2.2.1), (.rows 3 true (.int .i64) r.2.2.2)], [1, 2])
noncomputable abbrev F_sl8One (r : Bool × (LBBe) × (LIILIBBee) × List Int) := some (e_sl8One r)
noncomputable abbrev g_sl8One : SM_sl8One.den → AV × List AObj × List Nat := fun d => e_sl8One (sl8One d.1.2.1.1 d.1.2.1.2.1 d.1.2.1.2.2.1 d.2.2.1 d.2.2.2.1)
noncomputable def q_sl8One (x1_0 : Int) (x1_1 : Int) (x1_2 : LIBBe) (h1 : LBBe) (h2 : LIILIBBee) : Bool := (q_sl8At h2 x1_1) && ((q_sRecOk x1_0 x1_1 x1_2) && (cond (!(sRecOk x1_0 x1_1 x1_2)) true (cond (x1_0 == (1 : Int)) ((q_sl7Has [] x1_1) && (cond (sl7Has [] x1_1) true ((q_sl8Locked h2 x1_2) && (cond (sl8Locked h2 x1_2) true ((q_sMeets h1 x1_2) && (cond (!(sMeets h1 x1_2)) true ((q_sl8CopyRec x1_0 x1_1 x1_2) && ((decide ((h2.length + [(((sl8CopyRec x1_0 x1_1 x1_2).1), (((sl8CopyRec x1_0 x1_1 x1_2).2.1), ((sl8CopyRec x1_0 x1_1 x1_2).2.2)))].length) * 40 ≤ MAXB)) && (decide ([x1_1].length * 8 ≤ MAXB)))))))))) (cond (decide ((sl8At h2 x1_1) < (0 : Int))) (cond (x1_0 == (3 : Int)) ((q_sl7Has [] x1_1) && (decide ([x1_1].length * 8 ≤ MAXB))) (decide ([x1_1].length * 8 ≤ MAXB))) (cond (x1_0 == (2 : Int)) ((decide (0 ≤ (sl8At h2 x1_1) ∧ (sl8At h2 x1_1) < ((h2.length : Nat) : Int))) && ((q_sApply h1 (((h2.getD ((sl8At h2 x1_1).toNat) ((0 : Int), ((0 : Int), []))).2).2)) && ((decide (0 ≤ (0 : Int) ∧ (0 : Int) ≤ (sl8At h2 x1_1) ∧ (sl8At h2 x1_1) ≤ ((h2.length : Nat) : Int))) && ((decide (0 ≤ (IntKind.wrap .i64 ((sl8At h2 x1_1) + (1 : Int))) ∧ (IntKind.wrap .i64 ((sl8At h2 x1_1) + (1 : Int))) ≤ ((h2.length : Nat) : Int) ∧ ((h2.length : Nat) : Int) ≤ ((h2.length : Nat) : Int))) && ((decide ((([] : LIILIBBee).length + (h2.take ((sl8At h2 x1_1).toNat)).length) * 40 ≤ MAXB)) && (decide (((([] : LIILIBBee) ++ (h2.take ((sl8At h2 x1_1).toNat))).length + ((h2.drop ((IntKind.wrap .i64 ((sl8At h2 x1_1) + (1 : Int))).toNat)).take (((h2.length : Nat) : Int).toNat - (IntKind.wrap .i64 ((sl8At h2 x1_1) + (1 : Int))).toNat)).length) * 40 ≤ MAXB))))))) ((decide (0 ≤ (0 : Int) ∧ (0 : Int) ≤ (sl8At h2 x1_1) ∧ (sl8At h2 x1_1) ≤ ((h2.length : Nat) : Int))) && ((decide (0 ≤ (IntKind.wrap .i64 ((sl8At h2 x1_1) + (1 : Int))) ∧ (IntKind.wrap .i64 ((sl8At h2 x1_1) + (1 : Int))) ≤ ((h2.length : Nat) : Int) ∧ ((h2.length : Nat) : Int) ≤ ((h2.length : Nat) : Int))) && ((decide ((([] : LIILIBBee).length + (h2.take ((sl8At h2 x1_1).toNat)).length) * 40 ≤ MAXB)) && (decide (((([] : LIILIBBee) ++ (h2.take ((sl8At h2 x1_1).toNat))).length + ((h2.drop ((IntKind.wrap .i64 ((sl8At h2 x1_1) + (1 : Int))).toNat)).take (((h2.length : Nat) : Int).toNat - (IntKind.wrap .i64 ((sl8At h2 x1_1) + (1 : Int))).toNat)).length) * 40 ≤ MAXB))))))))))
noncomputable abbrev pre_sl8One : SM_sl8One.den → Bool := fun d => q_sl8One d.1.2.1.1 d.1.2.1.2.1 d.1.2.1.2.2.1 d.2.2.1 d.2.2.2.1
theorem runA_sl8One (x1_0 : Int) (x1_1 : Int) (x1_2 : LIBBe) (h1 : LBBe) (h2 : LIILIBBee) (hp : q_sl8One x1_0 x1_1 x1_2 h1 h2 = true) : runE false Try.prog tt S29 QF29 (fun _ _ => none) Try.f87 (shsMk SM_sl8One.sl ((((), (x1_0, x1_1, x1_2, ()), ()), (((), (), (), ()), h1, h2, ())) : SM_sl8One.den).1) (ohsMk SM_sl8One.hp ((((), (x1_0, x1_1, x1_2, ()), ()), (((), (), (), ()), h1, h2, ())) : SM_sl8One.den).2) [] [1, 2] [(0, 0, 1, 110, t_ptt), (0, 1, 2, 30, t_pipispiptt), (0, 2, 99999, 3, (.int .i64))] = some (g_sl8One (((), (x1_0, x1_1, x1_2, ()), ()), (((), (), (), ()), h1, h2, ()))) := by
  unfold q_sl8One at hp
  refine Eq.trans (b := (cond (q_sl8At h2 x1_1) (cond (q_sRecOk x1_0 x1_1 x1_2) (cond (!(sRecOk x1_0 x1_1 x1_2)) (some (e_sl8One (false, h1, h2, ([] : List Int)))) (cond (x1_0 == (1 : Int)) (cond (q_sl7Has [] x1_1) (cond (sl7Has [] x1_1) (some (e_sl8One (false, h1, h2, ([] : List Int)))) (cond (q_sl8Locked h2 x1_2) (cond (sl8Locked h2 x1_2) (some (e_sl8One (false, h1, h2, ([] : List Int)))) (cond (q_sMeets h1 x1_2) (cond (!(sMeets h1 x1_2)) (some (e_sl8One (false, h1, h2, ([] : List Int)))) (cond (q_sl8CopyRec x1_0 x1_1 x1_2) (cond (decide ((h2.length + [(((sl8CopyRec x1_0 x1_1 x1_2).1), (((sl8CopyRec x1_0 x1_1 x1_2).2.1), ((sl8CopyRec x1_0 x1_1 x1_2).2.2)))].length) * 40 ≤ MAXB)) (cond (decide ([x1_1].length * 8 ≤ MAXB)) (some (e_sl8One (true, h1, h2 ++ [(((sl8CopyRec x1_0 x1_1 x1_2).1), (((sl8CopyRec x1_0 x1_1 x1_2).2.1), ((sl8CopyRec x1_0 x1_1 x1_2).2.2)))], [x1_1]))) none) none) none)) none)) none)) none) (cond (decide ((sl8At h2 x1_1) < (0 : Int))) (cond (x1_0 == (3 : Int)) (cond (q_sl7Has [] x1_1) (cond (decide ([x1_1].length * 8 ≤ MAXB)) (some (e_sl8One (!(sl7Has [] x1_1), h1, h2, [x1_1]))) none) none) (cond (decide ([x1_1].length * 8 ≤ MAXB)) (some (e_sl8One (false, h1, h2, [x1_1]))) none)) (cond (x1_0 == (2 : Int)) (cond (decide (0 ≤ (sl8At h2 x1_1) ∧ (sl8At h2 x1_1) < ((h2.length : Nat) : Int))) (cond (q_sApply h1 (((h2.getD ((sl8At h2 x1_1).toNat) ((0 : Int), ((0 : Int), []))).2).2)) (cond (decide (0 ≤ (0 : Int) ∧ (0 : Int) ≤ (sl8At h2 x1_1) ∧ (sl8At h2 x1_1) ≤ ((h2.length : Nat) : Int))) (cond (decide (0 ≤ (IntKind.wrap .i64 ((sl8At h2 x1_1) + (1 : Int))) ∧ (IntKind.wrap .i64 ((sl8At h2 x1_1) + (1 : Int))) ≤ ((h2.length : Nat) : Int) ∧ ((h2.length : Nat) : Int) ≤ ((h2.length : Nat) : Int))) (cond (decide ((([] : LIILIBBee).length + (h2.take ((sl8At h2 x1_1).toNat)).length) * 40 ≤ MAXB)) (cond (decide (((([] : LIILIBBee) ++ (h2.take ((sl8At h2 x1_1).toNat))).length + ((h2.drop ((IntKind.wrap .i64 ((sl8At h2 x1_1) + (1 : Int))).toNat)).take (((h2.length : Nat) : Int).toNat - (IntKind.wrap .i64 ((sl8At h2 x1_1) + (1 : Int))).toNat)).length) * 40 ≤ MAXB)) (some (e_sl8One (decide ((((sApply h1 (((h2.getD ((sl8At h2 x1_1).toNat) ((0 : Int), ((0 : Int), []))).2).2)).length : Nat) : Int) ≤ (60 : Int)), (sApply h1 (((h2.getD ((sl8At h2 x1_1).toNat) ((0 : Int), ((0 : Int), []))).2).2)), (([] : LIILIBBee) ++ (h2.take ((sl8At h2 x1_1).toNat))) ++ ((h2.drop ((IntKind.wrap .i64 ((sl8At h2 x1_1) + (1 : Int))).toNat)).take (((h2.length : Nat) : Int).toNat - (IntKind.wrap .i64 ((sl8At h2 x1_1) + (1 : Int))).toNat)), ([] : List Int)))) none) none) none) none) none) none) (cond (decide (0 ≤ (0 : Int) ∧ (0 : Int) ≤ (sl8At h2 x1_1) ∧ (sl8At h2 x1_1) ≤ ((h2.length : Nat) : Int))) (cond (decide (0 ≤ (IntKind.wrap .i64 ((sl8At h2 x1_1) + (1 : Int))) ∧ (IntKind.wrap .i64 ((sl8At h2 x1_1) + (1 : Int))) ≤ ((h2.length : Nat) : Int) ∧ ((h2.length : Nat) : Int) ≤ ((h2.length : Nat) : Int))) (cond (decide ((([] : LIILIBBee).length + (h2.take ((sl8At h2 x1_1).toNat)).length) * 40 ≤ MAXB)) (cond (decide (((([] : LIILIBBee) ++ (h2.take ((sl8At h2 x1_1).toNat))).length + ((h2.drop ((IntKind.wrap .i64 ((sl8At h2 x1_1) + (1 : Int))).toNat)).take (((h2.length : Nat) : Int).toNat - (IntKind.wrap .i64 ((sl8At h2 x1_1) + (1 : Int))).toNat)).length) * 40 ≤ MAXB)) (some (e_sl8One (decide (((h1.length : Nat) : Int) ≤ (60 : Int)), h1, (([] : LIILIBBee) ++ (h2.take ((sl8At h2 x1_1).toNat))) ++ ((h2.drop ((IntKind.wrap .i64 ((sl8At h2 x1_1) + (1 : Int))).toNat)).take (((h2.length : Nat) : Int).toNat - (IntKind.wrap .i64 ((sl8At h2 x1_1) + (1 : Int))).toNat)), ([] : List Int)))) none) none) none) none))))) none) none)) (by kernel_rfl) ?_
  exact (cndA hp fun hp => (cndA hp fun hp => (cndQ (F := F_sl8One) hp (fun hp => rfl) (fun hp => (cndQ (F := F_sl8One) hp (fun hp => (cndA hp fun hp => (cndQ (F := F_sl8One) hp (fun hp => rfl) (fun hp => (cndA hp fun hp => (cndQ (F := F_sl8One) hp (fun hp => rfl) (fun hp => (cndA hp fun hp => (cndQ (F := F_sl8One) hp (fun hp => rfl) (fun hp => (cndA hp fun hp => (cndA hp fun hp => (cndT hp fun _h => rfl))))))))))))) (fun hp => (cndQ (F := F_sl8One) hp (fun hp => (cndQ (F := F_sl8One) hp (fun hp => (cndA hp fun hp => (cndT hp fun _h => rfl))) (fun hp => (cndT hp fun _h => rfl)))) (fun hp => (cndQ (F := F_sl8One) hp (fun hp => (cndA hp fun hp => (cndA hp fun hp => (cndA hp fun hp => (cndA hp fun hp => (cndA hp fun hp => (cndT hp fun _h => rfl))))))) (fun hp => (cndA hp fun hp => (cndA hp fun hp => (cndA hp fun hp => (cndT hp fun _h => rfl))))))))))))))
theorem run_sl8One : ∀ d : SM_sl8One.den, pre_sl8One d = true → runE false Try.prog tt S29 QF29 (fun _ _ => none) Try.f87 (shsMk SM_sl8One.sl (d : SM_sl8One.den).1) (ohsMk SM_sl8One.hp (d : SM_sl8One.den).2) [] [1, 2] [(0, 0, 1, 110, t_ptt), (0, 1, 2, 30, t_pipispiptt), (0, 2, 99999, 3, (.int .i64))] = some (g_sl8One d) := fun d hp => runA_sl8One d.1.2.1.1 d.1.2.1.2.1 d.1.2.1.2.2.1 d.2.2.1 d.2.2.2.1 hp
theorem c_sl8One : MContract Try.prog 87 (win winIds (msum SM_sl8One pre_sl8One g_sl8One)) := (MContract.of_dataE false [] [1, 2] [(0, 0, 1, 110, t_ptt), (0, 1, 2, 30, t_pipispiptt), (0, 2, 99999, 3, (.int .i64))]  G29 (fn := Try.f87) (by kernel_rfl) (L := fun _ _ => none) (by rw [show loopsIn 0 (bodyOf Try.f87) = [] by kernel_rfl]; simp) SM_sl8One pre_sl8One g_sl8One run_sl8One).win winIds
noncomputable def S30 : Tab := Tab.add S29 87 (win winIds (msum SM_sl8One pre_sl8One g_sl8One))
noncomputable def QF30 : FuncId → Bool := QF29
theorem G30 : Good Try.prog tt S30 QF30 := G29.addM c_sl8One (win_local _) ⟨Try.f87, by kernel_rfl, by kernel_rfl, by kernel_rfl⟩ (by kernel_rfl)

/-! 87 loop.example/g00244/spec.l8One -/
noncomputable abbrev SM_sl8One_w1 : SS := ⟨[.ptr 0 0 1 0, .agg [.t true (.int .i64), .t true (.int .i64), .t false t_spiptt]], [.box [.all 1 2, .all 2 3, .all 3 1], .rows 110 true t_ptt, .rows 30 true t_pipispiptt, .rows 3 true (.int .i64)]⟩
noncomputable def sl8One_w1 (x1_0 : Int) (x1_1 : Int) (x1_2 : LIBBe) (h1 : LBBe) (h2 : LIILIBBee) (h3 : List Int) : Bool × (LBBe) × (LIILIBBee) × List Int := (cond (!(sRecOk x1_0 x1_1 x1_2)) (false, h1, h2, h3) (cond (x1_0 == (1 : Int)) (cond (sl7Has h3 x1_1) (false, h1, h2, h3) (cond (sl8Locked h2 x1_2) (false, h1, h2, h3) (cond (!(sMeets h1 x1_2)) (false, h1, h2, h3) (true, h1, h2 ++ [(((sl8CopyRec x1_0 x1_1 x1_2).1), (((sl8CopyRec x1_0 x1_1 x1_2).2.1), ((sl8CopyRec x1_0 x1_1 x1_2).2.2)))], h3 ++ [x1_1])))) (cond (decide ((sl8At h2 x1_1) < (0 : Int))) (cond (x1_0 == (3 : Int)) (!(sl7Has h3 x1_1), h1, h2, h3 ++ [x1_1]) (false, h1, h2, h3 ++ [x1_1])) (cond (x1_0 == (2 : Int)) (decide ((((sApply h1 (((h2.getD ((sl8At h2 x1_1).toNat) ((0 : Int), ((0 : Int), []))).2).2)).length : Nat) : Int) ≤ (60 : Int)), (sApply h1 (((h2.getD ((sl8At h2 x1_1).toNat) ((0 : Int), ((0 : Int), []))).2).2)), (([] : LIILIBBee) ++ (h2.take ((sl8At h2 x1_1).toNat))) ++ ((h2.drop ((IntKind.wrap .i64 ((sl8At h2 x1_1) + (1 : Int))).toNat)).take (((h2.length : Nat) : Int).toNat - (IntKind.wrap .i64 ((sl8At h2 x1_1) + (1 : Int))).toNat)), h3) (decide (((h1.length : Nat) : Int) ≤ (60 : Int)), h1, (([] : LIILIBBee) ++ (h2.take ((sl8At h2 x1_1).toNat))) ++ ((h2.drop ((IntKind.wrap .i64 ((sl8At h2 x1_1) + (1 : Int))).toNat)).take (((h2.length : Nat) : Int).toNat - (IntKind.wrap .i64 ((sl8At h2 x1_1) + (1 : Int))).toNat)), h3)))))
noncomputable abbrev e_sl8One_w1 (r : Bool × (LBBe) × (LIILIBBee) × List Int) : AV × List AObj × List Nat := ((.t true .bool r.1), [(.box [(.all 1 2), (.all 2 3), (.all 3 1)]), (.rows 110 true t_ptt r.2.1), (.rows 30 true t_pipispiptt r.2.2.1), (.rows 3 true (.int .i64) r.2.2.2)], [1, 2, 3])
noncomputable abbrev F_sl8One_w1 (r : Bool × (LBBe) × (LIILIBBee) × List Int) := some (e_sl8One_w1 r)
noncomputable abbrev g_sl8One_w1 : SM_sl8One_w1.den → AV × List AObj × List Nat := fun d => e_sl8One_w1 (sl8One_w1 d.1.2.1.1 d.1.2.1.2.1 d.1.2.1.2.2.1 d.2.2.1 d.2.2.2.1 d.2.2.2.2.1)
noncomputable def q_sl8One_w1 (x1_0 : Int) (x1_1 : Int) (x1_2 : LIBBe) (h1 : LBBe) (h2 : LIILIBBee) (h3 : List Int) : Bool := (q_sl8At h2 x1_1) && ((q_sRecOk x1_0 x1_1 x1_2) && (cond (!(sRecOk x1_0 x1_1 x1_2)) true (cond (x1_0 == (1 : Int)) ((q_sl7Has h3 x1_1) && (cond (sl7Has h3 x1_1) true ((q_sl8Locked h2 x1_2) && (cond (sl8Locked h2 x1_2) true ((q_sMeets h1 x1_2) && (cond (!(sMeets h1 x1_2)) true ((q_sl8CopyRec x1_0 x1_1 x1_2) && ((decide ((h2.length + [(((sl8CopyRec x1_0 x1_1 x1_2).1), (((sl8CopyRec x1_0 x1_1 x1_2).2.1), ((sl8CopyRec x1_0 x1_1 x1_2).2.2)))].length) * 40 ≤ MAXB)) && (decide ((h3.length + [x1_1].length) * 8 ≤ MAXB)))))))))) (cond (decide ((sl8At h2 x1_1) < (0 : Int))) (cond (x1_0 == (3 : Int)) ((q_sl7Has h3 x1_1) && (decide ((h3.length + [x1_1].length) * 8 ≤ MAXB))) (decide ((h3.length + [x1_1].length) * 8 ≤ MAXB))) (cond (x1_0 == (2 : Int)) ((decide (0 ≤ (sl8At h2 x1_1) ∧ (sl8At h2 x1_1) < ((h2.length : Nat) : Int))) && ((q_sApply h1 (((h2.getD ((sl8At h2 x1_1).toNat) ((0 : Int), ((0 : Int), []))).2).2)) && ((decide (0 ≤ (0 : Int) ∧ (0 : Int) ≤ (sl8At h2 x1_1) ∧ (sl8At h2 x1_1) ≤ ((h2.length : Nat) : Int))) && ((decide (0 ≤ (IntKind.wrap .i64 ((sl8At h2 x1_1) + (1 : Int))) ∧ (IntKind.wrap .i64 ((sl8At h2 x1_1) + (1 : Int))) ≤ ((h2.length : Nat) : Int) ∧ ((h2.length : Nat) : Int) ≤ ((h2.length : Nat) : Int))) && ((decide ((([] : LIILIBBee).length + (h2.take ((sl8At h2 x1_1).toNat)).length) * 40 ≤ MAXB)) && (decide (((([] : LIILIBBee) ++ (h2.take ((sl8At h2 x1_1).toNat))).length + ((h2.drop ((IntKind.wrap .i64 ((sl8At h2 x1_1) + (1 : Int))).toNat)).take (((h2.length : Nat) : Int).toNat - (IntKind.wrap .i64 ((sl8At h2 x1_1) + (1 : Int))).toNat)).length) * 40 ≤ MAXB))))))) ((decide (0 ≤ (0 : Int) ∧ (0 : Int) ≤ (sl8At h2 x1_1) ∧ (sl8At h2 x1_1) ≤ ((h2.length : Nat) : Int))) && ((decide (0 ≤ (IntKind.wrap .i64 ((sl8At h2 x1_1) + (1 : Int))) ∧ (IntKind.wrap .i64 ((sl8At h2 x1_1) + (1 : Int))) ≤ ((h2.length : Nat) : Int) ∧ ((h2.length : Nat) : Int) ≤ ((h2.length : Nat) : Int))) && ((decide ((([] : LIILIBBee).length + (h2.take ((sl8At h2 x1_1).toNat)).length) * 40 ≤ MAXB)) && (decide (((([] : LIILIBBee) ++ (h2.take ((sl8At h2 x1_1).toNat))).length + ((h2.drop ((IntKind.wrap .i64 ((sl8At h2 x1_1) + (1 : Int))).toNat)).take (((h2.length : Nat) : Int).toNat - (IntKind.wrap .i64 ((sl8At h2 x1_1) + (1 : Int))).toNat)).length) * 40 ≤ MAXB))))))))))
noncomputable abbrev pre_sl8One_w1 : SM_sl8One_w1.den → Bool := fun d => q_sl8One_w1 d.1.2.1.1 d.1.2.1.2.1 d.1.2.1.2.2.1 d.2.2.1 d.2.2.2.1 d.2.2.2.2.1
theorem runA_sl8One_w1 (x1_0 : Int) (x1_1 : Int) (x1_2 : LIBBe) (h1 : LBBe) (h2 : LIILIBBee) (h3 : List Int) (hp : q_sl8One_w1 x1_0 x1_1 x1_2 h1 h2 h3 = true) : runE false Try.prog tt S30 QF30 (fun _ _ => none) Try.f87 (shsMk SM_sl8One_w1.sl ((((), (x1_0, x1_1, x1_2, ()), ()), (((), (), (), ()), h1, h2, h3, ())) : SM_sl8One_w1.den).1) (ohsMk SM_sl8One_w1.hp ((((), (x1_0, x1_1, x1_2, ()), ()), (((), (), (), ()), h1, h2, h3, ())) : SM_sl8One_w1.den).2) [] [1, 2, 3] [(0, 0, 1, 110, t_ptt), (0, 1, 2, 30, t_pipispiptt)] = some (g_sl8One_w1 (((), (x1_0, x1_1, x1_2, ()), ()), (((), (), (), ()), h1, h2, h3, ()))) := by
  unfold q_sl8One_w1 at hp
  refine Eq.trans (b := (cond (q_sl8At h2 x1_1) (cond (q_sRecOk x1_0 x1_1 x1_2) (cond (!(sRecOk x1_0 x1_1 x1_2)) (some (e_sl8One_w1 (false, h1, h2, h3))) (cond (x1_0 == (1 : Int)) (cond (q_sl7Has h3 x1_1) (cond (sl7Has h3 x1_1) (some (e_sl8One_w1 (false, h1, h2, h3))) (cond (q_sl8Locked h2 x1_2) (cond (sl8Locked h2 x1_2) (some (e_sl8One_w1 (false, h1, h2, h3))) (cond (q_sMeets h1 x1_2) (cond (!(sMeets h1 x1_2)) (some (e_sl8One_w1 (false, h1, h2, h3))) (cond (q_sl8CopyRec x1_0 x1_1 x1_2) (cond (decide ((h2.length + [(((sl8CopyRec x1_0 x1_1 x1_2).1), (((sl8CopyRec x1_0 x1_1 x1_2).2.1), ((sl8CopyRec x1_0 x1_1 x1_2).2.2)))].length) * 40 ≤ MAXB)) (cond (decide ((h3.length + [x1_1].length) * 8 ≤ MAXB)) (some (e_sl8One_w1 (true, h1, h2 ++ [(((sl8CopyRec x1_0 x1_1 x1_2).1), (((sl8CopyRec x1_0 x1_1 x1_2).2.1), ((sl8CopyRec x1_0 x1_1 x1_2).2.2)))], h3 ++ [x1_1]))) none) none) none)) none)) none)) none) (cond (decide ((sl8At h2 x1_1) < (0 : Int))) (cond (x1_0 == (3 : Int)) (cond (q_sl7Has h3 x1_1) (cond (decide ((h3.length + [x1_1].length) * 8 ≤ MAXB)) (some (e_sl8One_w1 (!(sl7Has h3 x1_1), h1, h2, h3 ++ [x1_1]))) none) none) (cond (decide ((h3.length + [x1_1].length) * 8 ≤ MAXB)) (some (e_sl8One_w1 (false, h1, h2, h3 ++ [x1_1]))) none)) (cond (x1_0 == (2 : Int)) (cond (decide (0 ≤ (sl8At h2 x1_1) ∧ (sl8At h2 x1_1) < ((h2.length : Nat) : Int))) (cond (q_sApply h1 (((h2.getD ((sl8At h2 x1_1).toNat) ((0 : Int), ((0 : Int), []))).2).2)) (cond (decide (0 ≤ (0 : Int) ∧ (0 : Int) ≤ (sl8At h2 x1_1) ∧ (sl8At h2 x1_1) ≤ ((h2.length : Nat) : Int))) (cond (decide (0 ≤ (IntKind.wrap .i64 ((sl8At h2 x1_1) + (1 : Int))) ∧ (IntKind.wrap .i64 ((sl8At h2 x1_1) + (1 : Int))) ≤ ((h2.length : Nat) : Int) ∧ ((h2.length : Nat) : Int) ≤ ((h2.length : Nat) : Int))) (cond (decide ((([] : LIILIBBee).length + (h2.take ((sl8At h2 x1_1).toNat)).length) * 40 ≤ MAXB)) (cond (decide (((([] : LIILIBBee) ++ (h2.take ((sl8At h2 x1_1).toNat))).length + ((h2.drop ((IntKind.wrap .i64 ((sl8At h2 x1_1) + (1 : Int))).toNat)).take (((h2.length : Nat) : Int).toNat - (IntKind.wrap .i64 ((sl8At h2 x1_1) + (1 : Int))).toNat)).length) * 40 ≤ MAXB)) (some (e_sl8One_w1 (decide ((((sApply h1 (((h2.getD ((sl8At h2 x1_1).toNat) ((0 : Int), ((0 : Int), []))).2).2)).length : Nat) : Int) ≤ (60 : Int)), (sApply h1 (((h2.getD ((sl8At h2 x1_1).toNat) ((0 : Int), ((0 : Int), []))).2).2)), (([] : LIILIBBee) ++ (h2.take ((sl8At h2 x1_1).toNat))) ++ ((h2.drop ((IntKind.wrap .i64 ((sl8At h2 x1_1) + (1 : Int))).toNat)).take (((h2.length : Nat) : Int).toNat - (IntKind.wrap .i64 ((sl8At h2 x1_1) + (1 : Int))).toNat)), h3))) none) none) none) none) none) none) (cond (decide (0 ≤ (0 : Int) ∧ (0 : Int) ≤ (sl8At h2 x1_1) ∧ (sl8At h2 x1_1) ≤ ((h2.length : Nat) : Int))) (cond (decide (0 ≤ (IntKind.wrap .i64 ((sl8At h2 x1_1) + (1 : Int))) ∧ (IntKind.wrap .i64 ((sl8At h2 x1_1) + (1 : Int))) ≤ ((h2.length : Nat) : Int) ∧ ((h2.length : Nat) : Int) ≤ ((h2.length : Nat) : Int))) (cond (decide ((([] : LIILIBBee).length + (h2.take ((sl8At h2 x1_1).toNat)).length) * 40 ≤ MAXB)) (cond (decide (((([] : LIILIBBee) ++ (h2.take ((sl8At h2 x1_1).toNat))).length + ((h2.drop ((IntKind.wrap .i64 ((sl8At h2 x1_1) + (1 : Int))).toNat)).take (((h2.length : Nat) : Int).toNat - (IntKind.wrap .i64 ((sl8At h2 x1_1) + (1 : Int))).toNat)).length) * 40 ≤ MAXB)) (some (e_sl8One_w1 (decide (((h1.length : Nat) : Int) ≤ (60 : Int)), h1, (([] : LIILIBBee) ++ (h2.take ((sl8At h2 x1_1).toNat))) ++ ((h2.drop ((IntKind.wrap .i64 ((sl8At h2 x1_1) + (1 : Int))).toNat)).take (((h2.length : Nat) : Int).toNat - (IntKind.wrap .i64 ((sl8At h2 x1_1) + (1 : Int))).toNat)), h3))) none) none) none) none))))) none) none)) (by kernel_rfl) ?_
  exact (cndA hp fun hp => (cndA hp fun hp => (cndQ (F := F_sl8One_w1) hp (fun hp => rfl) (fun hp => (cndQ (F := F_sl8One_w1) hp (fun hp => (cndA hp fun hp => (cndQ (F := F_sl8One_w1) hp (fun hp => rfl) (fun hp => (cndA hp fun hp => (cndQ (F := F_sl8One_w1) hp (fun hp => rfl) (fun hp => (cndA hp fun hp => (cndQ (F := F_sl8One_w1) hp (fun hp => rfl) (fun hp => (cndA hp fun hp => (cndA hp fun hp => (cndT hp fun _h => rfl))))))))))))) (fun hp => (cndQ (F := F_sl8One_w1) hp (fun hp => (cndQ (F := F_sl8One_w1) hp (fun hp => (cndA hp fun hp => (cndT hp fun _h => rfl))) (fun hp => (cndT hp fun _h => rfl)))) (fun hp => (cndQ (F := F_sl8One_w1) hp (fun hp => (cndA hp fun hp => (cndA hp fun hp => (cndA hp fun hp => (cndA hp fun hp => (cndA hp fun hp => (cndT hp fun _h => rfl))))))) (fun hp => (cndA hp fun hp => (cndA hp fun hp => (cndA hp fun hp => (cndT hp fun _h => rfl))))))))))))))
theorem run_sl8One_w1 : ∀ d : SM_sl8One_w1.den, pre_sl8One_w1 d = true → runE false Try.prog tt S30 QF30 (fun _ _ => none) Try.f87 (shsMk SM_sl8One_w1.sl (d : SM_sl8One_w1.den).1) (ohsMk SM_sl8One_w1.hp (d : SM_sl8One_w1.den).2) [] [1, 2, 3] [(0, 0, 1, 110, t_ptt), (0, 1, 2, 30, t_pipispiptt)] = some (g_sl8One_w1 d) := fun d hp => runA_sl8One_w1 d.1.2.1.1 d.1.2.1.2.1 d.1.2.1.2.2.1 d.2.2.1 d.2.2.2.1 d.2.2.2.2.1 hp
theorem c_sl8One_w1 : MContract Try.prog 87 (win winIds (msum SM_sl8One_w1 pre_sl8One_w1 g_sl8One_w1)) := (MContract.of_dataE false [] [1, 2, 3] [(0, 0, 1, 110, t_ptt), (0, 1, 2, 30, t_pipispiptt)]  G30 (fn := Try.f87) (by kernel_rfl) (L := fun _ _ => none) (by rw [show loopsIn 0 (bodyOf Try.f87) = [] by kernel_rfl]; simp) SM_sl8One_w1 pre_sl8One_w1 g_sl8One_w1 run_sl8One_w1).win winIds
noncomputable def S31 : Tab := Tab.add S30 87 (orElseS (win winIds (msum SM_sl8One pre_sl8One g_sl8One)) (win winIds (msum SM_sl8One_w1 pre_sl8One_w1 g_sl8One_w1)))
noncomputable def QF31 : FuncId → Bool := QF30
theorem G31 : Good Try.prog tt S31 QF31 := G30.addM (MContract.orElse c_sl8One c_sl8One_w1) (orElse_local (win_local _) (win_local _)) ⟨Try.f87, by kernel_rfl, by kernel_rfl, by kernel_rfl⟩ (by kernel_rfl)

/-! 44 loop.example/g00244/spec.ReplayRecs -/
noncomputable abbrev jS27 : List Sh := .junk :: jS26
noncomputable abbrev jS29 : List Sh := .junk :: .junk :: jS27
noncomputable abbrev jS28 : List Sh := .junk :: jS27
noncomputable abbrev u28 := ((), u27)
noncomputable abbrev jA29 : List AV := .junk :: .junk :: .junk :: .junk :: .junk :: .junk :: .junk :: .junk :: .junk :: .junk :: .junk :: .junk :: .junk :: .junk :: .junk :: .junk :: .junk :: .junk :: .junk :: .junk :: .junk :: .junk :: .junk :: .junk :: .junk :: .junk :: .junk :: .junk :: .junk :: []
noncomputable abbrev jA27 : List AV := .junk :: .junk :: .junk :: .junk :: .junk :: .junk :: .junk :: .junk :: .junk :: .junk :: .junk :: .junk :: .junk :: .junk :: .junk :: .junk :: .junk :: .junk :: .junk :: .junk :: .junk :: .junk :: .junk :: .junk :: .junk :: .junk :: .junk :: []
noncomputable abbrev jA28 : List AV := .junk :: jA27
noncomputable abbrev P_sReplayRecs : List PSh := [.t t_spipispiptt]
noncomputable abbrev S_sReplayRecs_0 : SS := ⟨(.t false t_spipispiptt :: .junk :: .junk :: .junk :: .junk :: .ptr 0 0 1 0 :: .t true (.int .i64) :: jS27), [.box [.all 1 2, .all 2 3, .all 3 1], .rows 110 true t_ptt, .rows 30 true t_pipispiptt, .rows 3 true (.int .i64)]⟩
noncomputable abbrev E_sReplayRecs_0_0 : SS := ⟨(.junk :: .junk :: .all 0 2 :: .all 1 3 :: .t true .bool :: jS29), [.rows 110 true t_ptt, .rows 30 true t_pipispiptt]⟩
noncomputable abbrev E_sReplayRecs_0_1 : SS := ⟨(.junk :: .junk :: .junk :: .junk :: .junk :: .ptr 0 0 1 0 :: jS28), [.box [.all 1 2, .all 2 3, .all 3 1], .rows 110 true t_ptt, .rows 30 true t_pipispiptt, .rows 3 true (.int .i64)]⟩
noncomputable def k1_sReplayRecs (x0 : LIILIBBee) (x6 : Int) (h1 : LBBe) (h2 : LIILIBBee) (h3 : List Int) := sl8One_w1 ((x0.getD x6.toNat ((0 : Int), ((0 : Int), []))).1) (((x0.getD x6.toNat ((0 : Int), ((0 : Int), []))).2).1) (((x0.getD x6.toNat ((0 : Int), ((0 : Int), []))).2).2) h1 h2 h3
noncomputable def st_sReplayRecs_0 (x0 : LIILIBBee) (x6 : Int) (h1 : LBBe) (h2 : LIILIBBee) (h3 : List Int) : RT S_sReplayRecs_0.den := (.br (decide (x6 < ((x0.length : Nat) : Int))) (.br (decide (0 ≤ x6 ∧ x6 < ((x0.length : Nat) : Int))) (.br (q_sl8One_w1 ((x0.getD x6.toNat ((0 : Int), ((0 : Int), []))).1) (((x0.getD x6.toNat ((0 : Int), ((0 : Int), []))).2).1) (((x0.getD x6.toNat ((0 : Int), ((0 : Int), []))).2).2) h1 h2 h3) (.br (!((k1_sReplayRecs x0 x6 h1 h2 h3).1)) (.done .ret E_sReplayRecs_0_0 (((), (), (), (), false, u30), (([] : LBBe), ([] : LIILIBBee), ()))) (.next ((x0, (), (), (), (), (), IntKind.wrap .i64 (x6 + (1 : Int)), u28), (((), (), (), ()), ((k1_sReplayRecs x0 x6 h1 h2 h3).2.1), ((k1_sReplayRecs x0 x6 h1 h2 h3).2.2.1), ((k1_sReplayRecs x0 x6 h1 h2 h3).2.2.2), ())))) .fail) .fail) (.done (.exit 0) E_sReplayRecs_0_1 ((u35), (((), (), (), ()), h1, h2, h3, ()))))
noncomputable abbrev V_sReplayRecs_0 := (LIILIBBee) × (Int) × (LBBe) × (LIILIBBee) × (List Int)
noncomputable abbrev A_sReplayRecs_0 := Nat × (Bool) × (LBBe) × (LIILIBBee) × (LBBe) × (LIILIBBee) × (List Int)
noncomputable def fl_sReplayRecs_0 : A_sReplayRecs_0 := (99, (false : Bool), ([] : LBBe), ([] : LIILIBBee), ([] : LBBe), ([] : LIILIBBee), ([] : List Int))
noncomputable def ss_sReplayRecs_0 (x0 : LIILIBBee) (x6 : Int) (h1 : LBBe) (h2 : LIILIBBee) (h3 : List Int) : V_sReplayRecs_0 ⊕ A_sReplayRecs_0 := (cond (decide (x6 < ((x0.length : Nat) : Int))) (cond (decide (0 ≤ x6 ∧ x6 < ((x0.length : Nat) : Int))) (cond (q_sl8One_w1 ((x0.getD x6.toNat ((0 : Int), ((0 : Int), []))).1) (((x0.getD x6.toNat ((0 : Int), ((0 : Int), []))).2).1) (((x0.getD x6.toNat ((0 : Int), ((0 : Int), []))).2).2) h1 h2 h3) (cond (!((k1_sReplayRecs x0 x6 h1 h2 h3).1)) (.inr (0, false, ([] : LBBe), ([] : LIILIBBee), ([] : LBBe), ([] : LIILIBBee), ([] : List Int))) (.inl (x0, IntKind.wrap .i64 (x6 + (1 : Int)), ((k1_sReplayRecs x0 x6 h1 h2 h3).2.1), ((k1_sReplayRecs x0 x6 h1 h2 h3).2.2.1), ((k1_sReplayRecs x0 x6 h1 h2 h3).2.2.2)))) (.inr fl_sReplayRecs_0)) (.inr fl_sReplayRecs_0)) (.inr (1, (false : Bool), ([] : LBBe), ([] : LIILIBBee), h1, h2, h3)))
noncomputable def it_sReplayRecs_0 (x0 : LIILIBBee) (x6 : Int) (h1 : LBBe) (h2 : LIILIBBee) (h3 : List Int) : A_sReplayRecs_0 := itX (fun v : V_sReplayRecs_0 => ss_sReplayRecs_0 v.1 v.2.1 v.2.2.1 v.2.2.2.1 v.2.2.2.2) fl_sReplayRecs_0 (x0, x6, h1, h2, h3)
noncomputable def ct_sReplayRecs_0 (a : A_sReplayRecs_0) : CT := (.br (a.1 == 0) (.done .ret E_sReplayRecs_0_0 (((), (), (), (), a.2.1, u30), (a.2.2.1, a.2.2.2.1, ()))) (.br (a.1 == 1) (.done (.exit 0) E_sReplayRecs_0_1 ((u35), (((), (), (), ()), a.2.2.2.2.1, a.2.2.2.2.2.1, a.2.2.2.2.2.2, ()))) .fail))
noncomputable def T_sReplayRecs_0 (x0 : LIILIBBee) (x6 : Int) (h1 : LBBe) (h2 : LIILIBBee) (h3 : List Int) : CT := ct_sReplayRecs_0 (it_sReplayRecs_0 x0 x6 h1 h2 h3)
noncomputable abbrev sp_sReplayRecs_0 : S_sReplayRecs_0.den → RT S_sReplayRecs_0.den := fun d => st_sReplayRecs_0 d.1.1 d.1.2.2.2.2.2.2.1 d.2.2.1 d.2.2.2.1 d.2.2.2.2.1
noncomputable abbrev pk_sReplayRecs_0 (x0 : LIILIBBee) (x6 : Int) (h1 : LBBe) (h2 : LIILIBBee) (h3 : List Int) : S_sReplayRecs_0.den := ((x0, (), (), (), (), (), x6, u28), (((), (), (), ()), h1, h2, h3, ()))
noncomputable def body_sReplayRecs_0 : Code := ((loopsIn 0 (bodyOf Try.f44)).getD 0 (0, .skip)).2
noncomputable abbrev pv_sReplayRecs_0 (v : V_sReplayRecs_0) : S_sReplayRecs_0.den := pk_sReplayRecs_0 v.1 v.2.1 v.2.2.1 v.2.2.2.1 v.2.2.2.2
theorem R_sReplayRecs_0 (x0 : LIILIBBee) (x6 : Int) (h1 : LBBe) (h2 : LIILIBBee) (h3 : List Int) : (T_sReplayRecs_0 x0 x6 h1 h2 h3).val (D := S_sReplayRecs_0.den) = .fail ∨ Runs sp_sReplayRecs_0 (pk_sReplayRecs_0 x0 x6 h1 h2 h3) (T_sReplayRecs_0 x0 x6 h1 h2 h3).val := Runs.ofIt (step := sp_sReplayRecs_0) pv_sReplayRecs_0 (ct := ct_sReplayRecs_0) rfl (fun v => ((relB (relB (relB (relB rfl rfl) rfl) rfl) rfl) : (st_sReplayRecs_0 v.1 v.2.1 v.2.2.1 v.2.2.2.1 v.2.2.2.2).val = relS pv_sReplayRecs_0 ct_sReplayRecs_0 (ss_sReplayRecs_0 v.1 v.2.1 v.2.2.1 v.2.2.2.1 v.2.2.2.2))) (fun a => ((cendB (cendD (by simp)) (cendB (cendD (by simp)) cendF)) : CEnd _ (ct_sReplayRecs_0 a))) (x0, x6, h1, h2, h3)
noncomputable def ox_sReplayRecs_0 (x0 : LIILIBBee) (x6 : Int) (h1 : LBBe) (h2 : LIILIBBee) (h3 : List Int) : Option (Ex × St) := (cond (decide (x6 < ((x0.length : Nat) : Int))) (cond (decide (0 ≤ x6 ∧ x6 < ((x0.length : Nat) : Int))) (cond (q_sl8One_w1 ((x0.getD x6.toNat ((0 : Int), ((0 : Int), []))).1) (((x0.getD x6.toNat ((0 : Int), ((0 : Int), []))).2).1) (((x0.getD x6.toNat ((0 : Int), ((0 : Int), []))).2).2) h1 h2 h3) (cond (!((k1_sReplayRecs x0 x6 h1 h2 h3).1)) (some (.ret, (⟨(.junk :: .junk :: (.all 0 2) :: (.all 1 3) :: (.t true .bool false) :: jA29), [(.rows 110 true t_ptt ([] : LBBe)), (.rows 30 true t_pipispiptt ([] : LIILIBBee))], 0, []⟩ : St))) (some (.normal, (⟨((.t false t_spipispiptt x0) :: .junk :: .junk :: .junk :: .junk :: (.ptr 0 0 1 0) :: (.t true (.int .i64) (IntKind.wrap .i64 (x6 + (1 : Int)))) :: jA27), [(.box [(.all 1 2), (.all 2 3), (.all 3 1)]), (.rows 110 true t_ptt ((k1_sReplayRecs x0 x6 h1 h2 h3).2.1)), (.rows 30 true t_pipispiptt ((k1_sReplayRecs x0 x6 h1 h2 h3).2.2.1)), (.rows 3 true (.int .i64) ((k1_sReplayRecs x0 x6 h1 h2 h3).2.2.2))], 0, []⟩ : St)))) none) none) (some ((.exit 0), (⟨(.junk :: .junk :: .junk :: .junk :: .junk :: (.ptr 0 0 1 0) :: jA28), [(.box [(.all 1 2), (.all 2 3), (.all 3 1)]), (.rows 110 true t_ptt h1), (.rows 30 true t_pipispiptt h2), (.rows 3 true (.int .i64) h3)], 0, []⟩ : St))))
theorem rdA_sReplayRecs_0 : ∀ d, execC Try.prog tt S31 QF31 (fun _ _ => none) 0 body_sReplayRecs_0 (S_sReplayRecs_0.st d 0 []) (fun e s' => some (e, S_sReplayRecs_0.cutE (kepts [2, 3, 4] [(0, [5])]) e s')) = ox_sReplayRecs_0 d.1.1 d.1.2.2.2.2.2.2.1 d.2.2.1 d.2.2.2.1 d.2.2.2.2.1 := by
  intro d
  kernel_rfl
theorem rdB_sReplayRecs_0 : ∀ d : S_sReplayRecs_0.den, ox_sReplayRecs_0 d.1.1 d.1.2.2.2.2.2.2.1 d.2.2.1 d.2.2.2.1 d.2.2.2.2.1 = (sp_sReplayRecs_0 d).opt 0 [] := by
  intro d
  kernel_rfl
theorem rd_sReplayRecs_0 : ∀ d, execC Try.prog tt S31 QF31 (fun _ _ => none) 0 body_sReplayRecs_0 (S_sReplayRecs_0.st d 0 []) (fun e s' => some (e, S_sReplayRecs_0.cutE (kepts [2, 3, 4] [(0, [5])]) e s')) = (sp_sReplayRecs_0 d).opt 0 [] := fun d => (rdA_sReplayRecs_0 d).trans (rdB_sReplayRecs_0 d)
noncomputable abbrev say_sReplayRecs_0 : St → Option Tree := S_sReplayRecs_0.say 0 [] [(2005002, 3, (.int .i64))] (fun d => T_sReplayRecs_0 d.1.1 d.1.2.2.2.2.2.2.1 d.2.2.1 d.2.2.2.1 d.2.2.2.2.1)
theorem lw_sReplayRecs_0 : LoopWp Try.prog say_sReplayRecs_0 body_sReplayRecs_0 := SS.wp G31 (fun _ _ => none) (by rw [show loopsIn 0 body_sReplayRecs_0 = [] by kernel_rfl]; simp) S_sReplayRecs_0 0 [] (kepts [2, 3, 4] [(0, [5])]) [(2005002, 3, (.int .i64))] sp_sReplayRecs_0 rd_sReplayRecs_0 _ (fun d => R_sReplayRecs_0 d.1.1 d.1.2.2.2.2.2.2.1 d.2.2.1 d.2.2.2.1 d.2.2.2.2.1)
noncomputable def k2_sReplayRecs (a0 : LIILIBBee) := it_sReplayRecs_0 a0 (0 : Int) ([] : LBBe) ([] : LIILIBBee) ([] : List Int)
noncomputable def sReplayRecs (a0 : LIILIBBee) : (LBBe) × (LIILIBBee) × Bool := (cond ((k2_sReplayRecs a0).1 == 0) (((k2_sReplayRecs a0).2.2.1), ((k2_sReplayRecs a0).2.2.2.1), ((k2_sReplayRecs a0).2.1)) (((k2_sReplayRecs a0).2.2.2.2.1), ((k2_sReplayRecs a0).2.2.2.2.2.1), true))
noncomputable abbrev e_sReplayRecs (r : (LBBe) × (LIILIBBee) × Bool) : AV × List AObj := ((.tup [(.t true t_sptt r.1), (.t true t_spipispiptt r.2.1), (.t true .bool r.2.2)]), [])
noncomputable abbrev F_sReplayRecs (r : (LBBe) × (LIILIBBee) × Bool) := some (e_sReplayRecs r)
noncomputable abbrev g_sReplayRecs : pshsDen P_sReplayRecs → AV × List AObj := fun d => e_sReplayRecs (sReplayRecs d.1)
noncomputable def q_sReplayRecs (a0 : LIILIBBee) : Bool := cond ((k2_sReplayRecs a0).1 == 0) true ((k2_sReplayRecs a0).1 == 1)
noncomputable abbrev pre_sReplayRecs : pshsDen P_sReplayRecs → Bool := fun d => q_sReplayRecs d.1
theorem runA_sReplayRecs (a0 : LIILIBBee) (hp : q_sReplayRecs a0 = true) : runP true Try.prog tt S31 QF31 (fun b => match b with | 0 => say_sReplayRecs_0 | _ => fun _ => none) Try.f44 (argsMk P_sReplayRecs (a0, ())) = some (g_sReplayRecs (a0, ())) := by
  unfold q_sReplayRecs at hp
  refine Eq.trans (b := (cond ((k2_sReplayRecs a0).1 == 0) (some (e_sReplayRecs (((k2_sReplayRecs a0).2.2.1), ((k2_sReplayRecs a0).2.2.2.1), ((k2_sReplayRecs a0).2.1)))) (cond ((k2_sReplayRecs a0).1 == 1) (some (e_sReplayRecs (((k2_sReplayRecs a0).2.2.2.2.1), ((k2_sReplayRecs a0).2.2.2.2.2.1), true))) none))) (by kernel_rfl) ?_
  exact (cndQ (F := F_sReplayRecs) hp (fun hp => rfl) (fun hp => (cndT hp fun _h => rfl)))
theorem run_sReplayRecs : ∀ d, pre_sReplayRecs d = true → runP true Try.prog tt S31 QF31 (fun b => match b with | 0 => say_sReplayRecs_0 | _ => fun _ => none) Try.f44 (argsMk P_sReplayRecs d) = some (g_sReplayRecs d) := fun d hp => runA_sReplayRecs d.1 hp
theorem c_sReplayRecs : PContract Try.prog 44 (sumOf P_sReplayRecs pre_sReplayRecs g_sReplayRecs) := PContract.of_data true G31 (fn := Try.f44) (by kernel_rfl) (L := fun b => match b with | 0 => say_sReplayRecs_0 | _ => fun _ => none) (by rw [show loopsIn 0 (bodyOf Try.f44) = [(0, body_sReplayRecs_0)] by kernel_rfl]; intro p hp; simp only [List.mem_singleton] at hp; subst hp; exact lw_sReplayRecs_0) P_sReplayRecs pre_sReplayRecs g_sReplayRecs run_sReplayRecs
noncomputable def S32 : Tab := Tab.add S31 44 (lift (sumOf P_sReplayRecs pre_sReplayRecs g_sReplayRecs))
noncomputable def QF32 : FuncId → Bool := qadd QF31 44
theorem G32 : Good Try.prog tt S32 QF32 := G31.addQ c_sReplayRecs ⟨Try.f44, by kernel_rfl, by kernel_rfl, by kernel_rfl⟩ (fun _ => rfl)

/-! 97 loop.example/g00244/spec.l9SamePairs -/
noncomputable abbrev jS20 : List Sh := .junk :: jS19
noncomputable abbrev P_sl9SamePairs : List PSh := [.t t_sptt, .t t_sptt]
noncomputable abbrev S_sl9SamePairs_0 : SS := ⟨(.t false t_sptt :: .t false t_sptt :: .junk :: .junk :: .junk :: .t true (.int .i64) :: jS20), []⟩
noncomputable abbrev E_sl9SamePairs_0_0 : SS := ⟨(.junk :: .junk :: .junk :: .junk :: .t true .bool :: jS21), []⟩
noncomputable abbrev E_sl9SamePairs_0_1 : SS := ⟨(.junk :: jS25), []⟩
noncomputable def st_sl9SamePairs_0 (x0 : LBBe) (x1 : LBBe) (x5 : Int) : RT S_sl9SamePairs_0.den := (.br (decide (x5 < ((x0.length : Nat) : Int))) (.br (decide (0 ≤ x5 ∧ x5 < ((x0.length : Nat) : Int))) (.br (decide (0 ≤ x5 ∧ x5 < ((x1.length : Nat) : Int))) (.br (!((((x0.getD x5.toNat (bE, bE)).1).toList == ((x1.getD x5.toNat (bE, bE)).1).toList) && ((((x0.getD x5.toNat (bE, bE)).2).toList == ((x1.getD x5.toNat (bE, bE)).2).toList) && true))) (.done .ret E_sl9SamePairs_0_0 (((), (), (), (), false, u22), ())) (.next ((x0, x1, (), (), (), IntKind.wrap .i64 (x5 + (1 : Int)), u21), ()))) .fail) .fail) (.done (.exit 0) E_sl9SamePairs_0_1 ((u27), ())))
noncomputable abbrev V_sl9SamePairs_0 := (LBBe) × (LBBe) × (Int)
noncomputable abbrev A_sl9SamePairs_0 := Nat × (Bool)
noncomputable def fl_sl9SamePairs_0 : A_sl9SamePairs_0 := (99, (false : Bool))
noncomputable def ss_sl9SamePairs_0 (x0 : LBBe) (x1 : LBBe) (x5 : Int) : V_sl9SamePairs_0 ⊕ A_sl9SamePairs_0 := (cond (decide (x5 < ((x0.length : Nat) : Int))) (cond (decide (0 ≤ x5 ∧ x5 < ((x0.length : Nat) : Int))) (cond (decide (0 ≤ x5 ∧ x5 < ((x1.length : Nat) : Int))) (cond (!((((x0.getD x5.toNat (bE, bE)).1).toList == ((x1.getD x5.toNat (bE, bE)).1).toList) && ((((x0.getD x5.toNat (bE, bE)).2).toList == ((x1.getD x5.toNat (bE, bE)).2).toList) && true))) (.inr (0, false)) (.inl (x0, x1, IntKind.wrap .i64 (x5 + (1 : Int))))) (.inr fl_sl9SamePairs_0)) (.inr fl_sl9SamePairs_0)) (.inr (1, (false : Bool))))
noncomputable def it_sl9SamePairs_0 (x0 : LBBe) (x1 : LBBe) (x5 : Int) : A_sl9SamePairs_0 := itX (fun v : V_sl9SamePairs_0 => ss_sl9SamePairs_0 v.1 v.2.1 v.2.2) fl_sl9SamePairs_0 (x0, x1, x5)
noncomputable def ct_sl9SamePairs_0 (a : A_sl9SamePairs_0) : CT := (.br (a.1 == 0) (.done .ret E_sl9SamePairs_0_0 (((), (), (), (), a.2, u22), ())) (.br (a.1 == 1) (.done (.exit 0) E_sl9SamePairs_0_1 ((u27), ())) .fail))
noncomputable def T_sl9SamePairs_0 (x0 : LBBe) (x1 : LBBe) (x5 : Int) : CT := ct_sl9SamePairs_0 (it_sl9SamePairs_0 x0 x1 x5)
noncomputable abbrev sp_sl9SamePairs_0 : S_sl9SamePairs_0.den → RT S_sl9SamePairs_0.den := fun d => st_sl9SamePairs_0 d.1.1 d.1.2.1 d.1.2.2.2.2.2.1
noncomputable abbrev pk_sl9SamePairs_0 (x0 : LBBe) (x1 : LBBe) (x5 : Int) : S_sl9SamePairs_0.den := ((x0, x1, (), (), (), x5, u21), ())
noncomputable def body_sl9SamePairs_0 : Code := ((loopsIn 0 (bodyOf Try.f97)).getD 0 (0, .skip)).2
noncomputable abbrev pv_sl9SamePairs_0 (v : V_sl9SamePairs_0) : S_sl9SamePairs_0.den := pk_sl9SamePairs_0 v.1 v.2.1 v.2.2
theorem R_sl9SamePairs_0 (x0 : LBBe) (x1 : LBBe) (x5 : Int) : (T_sl9SamePairs_0 x0 x1 x5).val (D := S_sl9SamePairs_0.den) = .fail ∨ Runs sp_sl9SamePairs_0 (pk_sl9SamePairs_0 x0 x1 x5) (T_sl9SamePairs_0 x0 x1 x5).val := Runs.ofIt (step := sp_sl9SamePairs_0) pv_sl9SamePairs_0 (ct := ct_sl9SamePairs_0) rfl (fun v => ((relB (relB (relB (relB rfl rfl) rfl) rfl) rfl) : (st_sl9SamePairs_0 v.1 v.2.1 v.2.2).val = relS pv_sl9SamePairs_0 ct_sl9SamePairs_0 (ss_sl9SamePairs_0 v.1 v.2.1 v.2.2))) (fun a => ((cendB (cendD (by simp)) (cendB (cendD (by simp)) cendF)) : CEnd _ (ct_sl9SamePairs_0 a))) (x0, x1, x5)
theorem rd_sl9SamePairs_0 : ∀ d, execC Try.prog tt S32 QF32 (fun _ _ => none) 0 body_sl9SamePairs_0 (S_sl9SamePairs_0.st d 0 []) (fun e s' => some (e, S_sl9SamePairs_0.cutE (kepts [4] [(0, [])]) e s')) = (sp_sl9SamePairs_0 d).opt 0 [] := by
  intro d
  kernel_rfl
noncomputable abbrev say_sl9SamePairs_0 : St → Option Tree := S_sl9SamePairs_0.say 0 [] [] (fun d => T_sl9SamePairs_0 d.1.1 d.1.2.1 d.1.2.2.2.2.2.1)
theorem lw_sl9SamePairs_0 : LoopWp Try.prog say_sl9SamePairs_0 body_sl9SamePairs_0 := SS.wp G32 (fun _ _ => none) (by rw [show loopsIn 0 body_sl9SamePairs_0 = [] by kernel_rfl]; simp) S_sl9SamePairs_0 0 [] (kepts [4] [(0, [])]) [] sp_sl9SamePairs_0 rd_sl9SamePairs_0 _ (fun d => R_sl9SamePairs_0 d.1.1 d.1.2.1 d.1.2.2.2.2.2.1)
noncomputable def sl9SamePairs (a0 : LBBe) (a1 : LBBe) : Bool := (cond (((a0.length : Nat) : Int) != ((a1.length : Nat) : Int)) false (cond ((it_sl9SamePairs_0 a0 a1 (0 : Int)).1 == 0) ((it_sl9SamePairs_0 a0 a1 (0 : Int)).2) true))
noncomputable abbrev e_sl9SamePairs (r : Bool) : AV × List AObj := ((.t true .bool r), [])
noncomputable abbrev F_sl9SamePairs (r : Bool) := some (e_sl9SamePairs r)
noncomputable abbrev g_sl9SamePairs : pshsDen P_sl9SamePairs → AV × List AObj := fun d => e_sl9SamePairs (sl9SamePairs d.1 d.2.1)
noncomputable def q_sl9SamePairs (a0 : LBBe) (a1 : LBBe) : Bool := cond (((a0.length : Nat) : Int) != ((a1.length : Nat) : Int)) true (cond ((it_sl9SamePairs_0 a0 a1 (0 : Int)).1 == 0) true ((it_sl9SamePairs_0 a0 a1 (0 : Int)).1 == 1))
noncomputable abbrev pre_sl9SamePairs : pshsDen P_sl9SamePairs → Bool := fun d => q_sl9SamePairs d.1 d.2.1
theorem runA_sl9SamePairs (a0 : LBBe) (a1 : LBBe) (hp : q_sl9SamePairs a0 a1 = true) : runP true Try.prog tt S32 QF32 (fun b => match b with | 0 => say_sl9SamePairs_0 | _ => fun _ => none) Try.f97 (argsMk P_sl9SamePairs (a0, (a1, ()))) = some (g_sl9SamePairs (a0, (a1, ()))) := by
  unfold q_sl9SamePairs at hp
  refine Eq.trans (b := (cond (((a0.length : Nat) : Int) != ((a1.length : Nat) : Int)) (some (e_sl9SamePairs false)) (cond ((it_sl9SamePairs_0 a0 a1 (0 : Int)).1 == 0) (some (e_sl9SamePairs ((it_sl9SamePairs_0 a0 a1 (0 : Int)).2))) (cond ((it_sl9SamePairs_0 a0 a1 (0 : Int)).1 == 1) (some (e_sl9SamePairs true)) none)))) (by kernel_rfl) ?_
  exact (cndQ (F := F_sl9SamePairs) hp (fun hp => rfl) (fun hp => (cndQ (F := F_sl9SamePairs) hp (fun hp => rfl) (fun hp => (cndT hp fun _h => rfl)))))
theorem run_sl9SamePairs : ∀ d, pre_sl9SamePairs d = true → runP true Try.prog tt S32 QF32 (fun b => match b with | 0 => say_sl9SamePairs_0 | _ => fun _ => none) Try.f97 (argsMk P_sl9SamePairs d) = some (g_sl9SamePairs d) := fun d hp => runA_sl9SamePairs d.1 d.2.1 hp
theorem c_sl9SamePairs : PContract Try.prog 97 (sumOf P_sl9SamePairs pre_sl9SamePairs g_sl9SamePairs) := PContract.of_data true G32 (fn := Try.f97) (by kernel_rfl) (L := fun b => match b with | 0 => say_sl9SamePairs_0 | _ => fun _ => none) (by rw [show loopsIn 0 (bodyOf Try.f97) = [(0, body_sl9SamePairs_0)] by kernel_rfl]; intro p hp; simp only [List.mem_singleton] at hp; subst hp; exact lw_sl9SamePairs_0) P_sl9SamePairs pre_sl9SamePairs g_sl9SamePairs run_sl9SamePairs
noncomputable def S33 : Tab := Tab.add S32 97 (lift (sumOf P_sl9SamePairs pre_sl9SamePairs g_sl9SamePairs))
noncomputable def QF33 : FuncId → Bool := qadd QF32 97
theorem G33 : Good Try.prog tt S33 QF33 := G32.addQ c_sl9SamePairs ⟨Try.f97, by kernel_rfl, by kernel_rfl, by kernel_rfl⟩ (fun _ => rfl)


end Go.Proofs.Ytccelbeahdcooaa.Eng
