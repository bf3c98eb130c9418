/- What the functions that FnExactWhole reaches compute, and that it answers true. -/
import Derived.Test.YtcofibhklbfgoaaT
import Derived.Test.YtcofibhklbfgoaaRows
namespace Go.Proofs.Ytcofibhklbfgoaa.Eng
open Go Go.RowKit
set_option linter.unusedSimpArgs false
set_option linter.unusedVariables false
set_option maxRecDepth 10000
noncomputable def S0 : Tab := fun _ => none
noncomputable def QF0 : FuncId → Bool := fun _ => false
theorem G0 : Good Try.prog tt S0 QF0 := Good.start tt_ok (by kernel_rfl)
/-! Plain laws: order of bytes, keys, ops. -/
theorem bytesLess_irrefl : ∀ a : List UInt8, Op.bytesLess a a = false := by
  intro a
  induction a with
  | nil => rfl
  | cons x a ih => simp only [Op.bytesLess, ih, Bool.and_false, Bool.or_false, decide_eq_false_iff_not]; exact UInt8.lt_irrefl x
theorem bytesLess_ge : ∀ a b : List UInt8, (!(Op.bytesLess a b)) = (Op.bytesLess b a || b == a) := by
  intro a
  induction a with
  | nil => intro b; cases b <;> simp [Op.bytesLess]
  | cons x a ih =>
    intro b
    cases b with
    | nil => simp [Op.bytesLess]
    | cons y b =>
      simp only [Op.bytesLess]
      by_cases h1 : x < y
      · have h2 : ¬ y < x := fun h => UInt8.lt_irrefl _ (UInt8.lt_trans h1 h)
        have h3 : (y == x) = false := by rw [beq_eq_false_iff_ne]; intro h; subst h; exact h2 h1
        have h4 : (y :: b == x :: a) = false := by rw [List.cons_beq_cons, h3, Bool.false_and]
        simp [h1, h2, h3, h4]
      · by_cases h5 : x = y
        · subst h5
          have h6 : (x :: b == x :: a) = (b == a) := by rw [List.cons_beq_cons]; simp
          have := ih b
          simp only [h1, decide_false, Bool.false_or, beq_self_eq_true, Bool.true_and, h6, this]
        · have h7 : y < x := by
            rcases Nat.lt_trichotomy x.toNat y.toNat with h | h | h
            · exact absurd (UInt8.lt_iff_toNat_lt.2 h) h1
            · exact absurd (UInt8.toNat_inj.1 h) h5
            · exact UInt8.lt_iff_toNat_lt.2 h
          have h8 : (x == y) = false := by rw [beq_eq_false_iff_ne]; exact h5
          simp [h1, h7, h8]
theorem allF_congr {p q : Nat → Bool} : ∀ k i, (∀ j, i ≤ j → j < i + k → p j = q j) → allF p k i = allF q k i := by
  intro k
  induction k with
  | zero => intro i h; rfl
  | succ k ih => intro i h; simp only [allF]; rw [h i (Nat.le_refl _) (by omega), ih (i + 1) (fun j h1 h2 => h j (by omega) (by omega))]
theorem allF_same {p : Nat → Bool} (k i : Nat) (h : ∀ j, i ≤ j → j < i + k → p j = true) : allF p k i = true := (allF_true k i).2 h
theorem szN_all {f : Nat → Int → Int} {Q : Nat → Prop} {M : Int} : ∀ (k i : Nat) (b : Int), (∀ j b, i ≤ j → j < i + k → 0 ≤ b → b ≤ M → 0 ≤ f j b → Q j ∧ f j b ≤ b) → 0 ≤ b → b ≤ M → isInl (szN f k i b) = true →
    (∀ j, i ≤ j → j < i + k → Q j) ∧ 0 ≤ getInl (-1) (szN f k i b) ∧ getInl (-1) (szN f k i b) ≤ b := by
  intro k
  induction k with
  | zero => intro i b hf h1 h2 h3; exact ⟨fun j hj hk => by omega, h1, Int.le_refl _⟩
  | succ k ih =>
    intro i b hf h1 h2 h3
    have e : szN f (k + 1) i b = cond (decide (f i b < 0)) (.inr ()) (szN f k (i + 1) (f i b)) := by
      simp only [szN, loopN]
      cases decide (f i b < 0) <;> rfl
    rw [e] at h3 ⊢
    cases hd : decide (f i b < 0) with
    | true => rw [hd] at h3; cases h3
    | false =>
      rw [hd] at h3
      simp only [cond_false] at h3 ⊢
      have h0 : 0 ≤ f i b := by have := of_decide_eq_false hd; omega
      obtain ⟨q1, q2⟩ := hf i b (Nat.le_refl _) (by omega) h1 h2 h0
      obtain ⟨r1, r2, r3⟩ := ih (i + 1) (f i b) (fun j b hj hk => hf j b (by omega) (by omega)) h0 (by omega) h3
      refine ⟨fun j hj hk => ?_, r2, by omega⟩
      by_cases ej : j = i
      · exact ej ▸ q1
      · exact r1 j (by omega) (by omega)
noncomputable abbrev OpT : Type := Int × ByteArray × ByteArray
noncomputable def dOp : Int × ByteArray × ByteArray := ((0 : Int), ((⟨#[]⟩ : ByteArray), (⟨#[]⟩ : ByteArray)))
noncomputable def okOp (o : Int × ByteArray × ByteArray) : Bool := okS o.2.1 && okS o.2.2
noncomputable def okOps (l : List (Int × ByteArray × ByteArray)) : Bool := okL l && l.all okOp
theorem okOps_at {l : List (Int × ByteArray × ByteArray)} (h : okOps l = true) (i : Nat) (hi : i < l.length) : okS (l.getD i dOp).2.1 = true ∧ okS (l.getD i dOp).2.2 = true := by
  simp only [okOps, Bool.and_eq_true, List.all_eq_true] at h
  have := h.2 (l.getD i dOp) (by simp [List.getD_eq_getElem?_getD, hi])
  simpa [okOp] using this
theorem okOps_len {l : List (Int × ByteArray × ByteArray)} (h : okOps l = true) : l.length ≤ 1048576 := by
  simp only [okOps, Bool.and_eq_true] at h
  exact okL_le h.1
noncomputable def bigS (s : ByteArray) : Bool := decide (s.size ≤ 9223372036854775807)
noncomputable def bigOps (l : List (Int × ByteArray × ByteArray)) : Bool := decide (l.length ≤ 9223372036854775807) && l.all (fun o => bigS o.2.1 && bigS o.2.2)
theorem bigOps_at {l : List (Int × ByteArray × ByteArray)} (h : bigOps l = true) (i : Nat) (hi : i < l.length) : bigS (l.getD i dOp).2.1 = true ∧ bigS (l.getD i dOp).2.2 = true := by
  simp only [bigOps, Bool.and_eq_true, List.all_eq_true] at h
  exact h.2 (l.getD i dOp) (by simp [List.getD_eq_getElem?_getD, hi])
theorem okOps_of {l : List (Int × ByteArray × ByteArray)} (h1 : l.length ≤ 1048576) (h2 : ∀ i, i < l.length → okS (l.getD i dOp).2.1 = true ∧ okS (l.getD i dOp).2.2 = true) : okOps l = true := by
  simp only [okOps, okL, Bool.and_eq_true, decide_eq_true_eq, List.all_eq_true]
  refine ⟨h1, fun o ho => ?_⟩
  obtain ⟨i, hi, rfl⟩ := List.getElem_of_mem ho
  have := h2 i hi
  simp only [List.getD_eq_getElem?_getD, List.getElem?_eq_getElem hi, Option.getD_some] at this
  simp [okOp, this.1, this.2]
theorem ba_beq (a b : ByteArray) : (a.toList == b.toList) = decide (a = b) := by
  rw [ByteArray.toList_eq, ByteArray.toList_eq]
  by_cases h : a = b
  · subst h; simp
  · rw [decide_eq_false h, beq_eq_false_iff_ne]
    intro e
    exact h (by cases a; cases b; simp at e; rw [e])
theorem bigOps_len {l : List (Int × ByteArray × ByteArray)} (h : bigOps l = true) : l.length ≤ 9223372036854775807 := by
  simp only [bigOps, Bool.and_eq_true, decide_eq_true_eq] at h; exact h.1
theorem okOps_okL {l : List (Int × ByteArray × ByteArray)} (h : okOps l = true) : okL l = true := by
  simp only [okOps, Bool.and_eq_true] at h; exact h.1
theorem bigOps_of {l : List (Int × ByteArray × ByteArray)} (h : bigT (.sl (.pair (.int .i64) (.pair .str .str))) l = true) : bigOps l = true := by
  have h : (decide (l.length ≤ maxLen) && l.all fun o => (Lit.int .i64 o.1).wf && (decide (o.2.1.size ≤ maxLen) && decide (o.2.2.size ≤ maxLen))) = true := h
  have hm : maxLen = 9223372036854775807 := by decide
  rw [hm] at h
  simp only [Bool.and_eq_true, decide_eq_true_eq, List.all_eq_true] at h
  simp only [bigOps, bigS, Bool.and_eq_true, decide_eq_true_eq, List.all_eq_true]
  exact ⟨h.1, fun o ho => (h.2 o ho).2⟩
theorem bigRec_ops {k t : Int} {l : List (Int × ByteArray × ByteArray)} (h : bigT (.pair (.int .i64) (.pair (.int .i64) (.sl (.pair (.int .i64) (.pair .str .str))))) (k, (t, l)) = true) : bigOps l = true := by
  have hb : ((Lit.int .i64 k).wf && ((Lit.int .i64 t).wf && bigT (.sl (.pair (.int .i64) (.pair .str .str))) l)) = true := h
  rw [Bool.and_eq_true, Bool.and_eq_true] at hb
  exact bigOps_of hb.2.2
/-- The high groups of a number, and what is left. -/
noncomputable def hiF (g : Int → Int) : Nat → Int → List Int × Int
  | 0, x => ([], x)
  | k + 1, x => cond (decide (x > 127)) (g x :: (hiF g k (Int.fdiv x (2 ^ 7))).1, (hiF g k (Int.fdiv x (2 ^ 7))).2) ([], x)
theorem fdiv128 (x : Int) : Int.fdiv x (2 ^ 7) = x / 128 := by
  rw [show (2 : Int) ^ 7 = 128 from rfl, Int.fdiv_eq_ediv_of_nonneg _ (by decide)]
theorem hiF_small (g : Int → Int) (k : Nat) : ∀ x : Int, 0 ≤ x → x < 128 ^ (k + 1) → 0 ≤ (hiF g k x).2 ∧ (hiF g k x).2 ≤ 127 := by
  induction k with
  | zero => intro x h0 h1; simp only [hiF]; exact ⟨h0, by rw [show (128 : Int) ^ (0 + 1) = 128 from rfl] at h1; omega⟩
  | succ k ih =>
    intro x h0 h1
    simp only [hiF]
    by_cases hx : x > 127
    · simp only [decide_eq_true hx, cond_true, fdiv128]
      rw [Int.pow_succ] at h1
      exact ih (x / 128) (by omega) (by omega)
    · simp only [decide_eq_false hx, cond_false]
      exact ⟨h0, by omega⟩
theorem hiF_len (g : Int → Int) (k : Nat) : ∀ x : Int, (hiF g k x).1.length ≤ k := by
  induction k with
  | zero => intro x; simp [hiF]
  | succ k ih =>
    intro x
    simp only [hiF]
    cases decide (x > 127) with
    | true => simp; exact ih _
    | false => simp
noncomputable def gNum (x : Int) : Int := IntKind.wrap .u8 (ior .i64 (iand .i64 x (127 : Int)) (128 : Int))
noncomputable def gNum' (x : Int) : Int := IntKind.wrap .u8 (ior .i64 (128 : Int) (iand .i64 x (127 : Int)))
theorem gNum_same : gNum' = gNum := by
  funext x
  simp only [gNum, gNum', ior]
  rw [BitVec.or_comm]
theorem nX_is : ∃ f : Int → List Int × Int, ∀ x, f x = hiF gNum 4 x := ⟨_, fun _ => rfl⟩
/-- The same, not to be unfolded. -/
noncomputable def nX : Int → List Int × Int := Classical.choose nX_is
theorem nX_eq (x : Int) : nX x = hiF gNum 4 x := Classical.choose_spec nX_is x
theorem nX_eq' (x : Int) : nX x = hiF gNum' 4 x := by rw [gNum_same]; exact nX_eq x
theorem nX_len (x : Int) : (nX x).1.length ≤ 4 := by rw [nX_eq]; exact hiF_len gNum 4 x
/-- The bytes of a number. -/
noncomputable def numB (x : Int) : List Int := (nX x).1 ++ [IntKind.wrap .u8 (nX x).2]
theorem numB_len (x : Int) : (numB x).length ≤ 5 := by
  have := nX_len x
  simp [numB]; omega
noncomputable def clampN (n : Int) : Int := if n > 1000000000 then 1000000000 else if n < 0 then 0 else n
noncomputable def textB (s : ByteArray) : List Int := numB (s.size : Int) ++ strInts s
noncomputable def opB (o : Int × ByteArray × ByteArray) : List Int := numB (clampN o.1) ++ (textB o.2.1 ++ textB o.2.2)
theorem clampN_of {n : Int} (h0 : 0 ≤ n) (h1 : n ≤ 1000000000) : clampN n = n := by simp only [clampN]; split <;> (try split) <;> omega
theorem strInts_len (s : ByteArray) : (strInts s).length = s.size := by rw [strInts, List.length_map, Array.length_toList]; rfl
theorem textB_len (s : ByteArray) : (textB s).length ≤ 5 + s.size := by
  have := numB_len (s.size : Int)
  simp [textB, strInts_len]; omega

noncomputable def clampI (x : Int) : Int := if (if (1000000000 : Int) < x then (1000000000 : Int) else x) > (0 : Int) then (if (1000000000 : Int) < x then (1000000000 : Int) else x) else (0 : Int)
theorem clampI_eq (x : Int) : clampI x = clampN x := by
  simp only [clampI, clampN]
  split <;> split <;> (try split) <;> omega
theorem clampN_range (x : Int) : 0 ≤ clampN x ∧ clampN x ≤ 1000000000 := by
  simp only [clampN]
  split <;> (try split) <;> omega
theorem clampI_range (x : Int) : 0 ≤ clampI x ∧ clampI x ≤ 1000000000 := by rw [clampI_eq]; exact clampN_range x

noncomputable def digB (x : Int) : ByteArray := (⟨([IntKind.wrap .u8 (IntKind.wrap .i64 ((48 : Int) + (Int.tmod x (10 : Int))))].map fun n => UInt8.ofNat n.toNat).toArray⟩ : ByteArray)
theorem digB_size (x : Int) : (digB x).size = 1 := rfl
/-- A number's digits. -/
noncomputable def txtN : Nat → Int → ByteArray → ByteArray
  | 0, _, s => s
  | k + 1, x, s => cond (decide (x > 0)) (txtN k (IntKind.wrap .i64 (Int.tdiv x (10 : Int))) (digB x ++ s)) s
theorem txtN_len : ∀ (k : Nat) (x : Int) (s : ByteArray), (txtN k x s).size ≤ k + s.size := by
  intro k
  induction k with
  | zero => intro x s; simp [txtN]
  | succ k ih =>
    intro x s
    simp only [txtN]
    cases decide (x > 0) with
    | true =>
      have := ih (IntKind.wrap .i64 (Int.tdiv x (10 : Int))) (digB x ++ s)
      rw [ByteArray.size_append, digB_size] at this
      simp only [cond_true]; omega
    | false => simp only [cond_false]; omega
theorem foldN_app {α : Type} (f : α → List Int) (d : α) (l : List α) (g : Nat → List Int → List Int) (hg : ∀ i h, i < l.length → g i h = h ++ f (l.getD i d)) : ∀ k i h, i + k = l.length → foldN g k i h = h ++ ((l.drop i).map f).flatten := by
  intro k
  induction k with
  | zero =>
    intro i h hi
    have : l.drop i = [] := List.drop_eq_nil_of_le (by omega)
    simp [foldN, this]
  | succ k ih =>
    intro i h hi
    have hlt : i < l.length := by omega
    simp only [foldN]
    rw [ih (i + 1) (g i h) (by omega), hg i h hlt, List.append_assoc, show l.drop i = l[i] :: l.drop (i + 1) from List.drop_eq_getElem_cons hlt, List.map_cons, List.flatten_cons, show l.getD i d = l[i] from by simp [List.getD_eq_getElem?_getD, hlt]]
theorem opB_len (o : Int × ByteArray × ByteArray) : (opB o).length ≤ 15 + o.2.1.size + o.2.2.size := by
  have h1 := numB_len (clampN o.1)
  have h2 := textB_len o.2.1
  have h3 := textB_len o.2.2
  simp only [opB, List.length_append]; omega
theorem flat_len {M : Nat} : ∀ l : List (Int × ByteArray × ByteArray), (∀ o ∈ l, (opB o).length ≤ M) → (l.map opB).flatten.length ≤ M * l.length := by
  intro l
  induction l with
  | nil => intro _; simp
  | cons o l ih =>
    intro h
    have h1 := h o (by simp)
    have h2 := ih fun x hx => h x (by simp [hx])
    simp only [List.map_cons, List.flatten_cons, List.length_append, List.length_cons]
    rw [Nat.mul_add]; omega
theorem okOps_mem {l : List (Int × ByteArray × ByteArray)} (h : okOps l = true) : ∀ o ∈ l, o.2.1.size ≤ 1048576 ∧ o.2.2.size ≤ 1048576 := by
  intro o ho
  simp only [okOps, Bool.and_eq_true, List.all_eq_true] at h
  have := h.2 o ho
  simpa [okOp, okS] using this

/-! 111 loop.example/g00244/laws.szOp -/
noncomputable abbrev P_lszOp : List PSh := [.agg [(.int .i64), .str, .str], .t (.int .i64)]
noncomputable def lszOp (a0 : Int) (a1 : ByteArray) (a2 : ByteArray) (a3 : Int) : Int := (cond (decide ((IntKind.wrap .i64 (a3 - ((a1.size : Nat) : Int))) < (0 : Int))) (-1 : Int) (cond (decide ((IntKind.wrap .i64 ((IntKind.wrap .i64 (a3 - ((a1.size : Nat) : Int))) - ((a2.size : Nat) : Int))) < (0 : Int))) (-1 : Int) (IntKind.wrap .i64 ((IntKind.wrap .i64 (a3 - ((a1.size : Nat) : Int))) - ((a2.size : Nat) : Int)))))
noncomputable abbrev e_lszOp (r : Int) : AV × List AObj := ((.t true (.int .i64) r), [])
noncomputable abbrev g_lszOp : pshsDen P_lszOp → AV × List AObj := fun d => e_lszOp (lszOp d.1.1 d.1.2.1 d.1.2.2.1 d.2.1)
noncomputable abbrev pre_lszOp : pshsDen P_lszOp → Bool := fun d => true
theorem runA_lszOp (a0 : Int) (a1 : ByteArray) (a2 : ByteArray) (a3 : Int) : runP true Try.prog tt S0 QF0 (fun _ _ => none) Try.f111 (argsMk P_lszOp ((a0, (a1, (a2, ()))), (a3, ()))) = some (g_lszOp ((a0, (a1, (a2, ()))), (a3, ()))) := by
  refine Eq.trans (b := (cond (decide ((IntKind.wrap .i64 (a3 - ((a1.size : Nat) : Int))) < (0 : Int))) (some (e_lszOp (-1 : Int))) (cond (decide ((IntKind.wrap .i64 ((IntKind.wrap .i64 (a3 - ((a1.size : Nat) : Int))) - ((a2.size : Nat) : Int))) < (0 : Int))) (some (e_lszOp (-1 : Int))) (some (e_lszOp (IntKind.wrap .i64 ((IntKind.wrap .i64 (a3 - ((a1.size : Nat) : Int))) - ((a2.size : Nat) : Int)))))))) (by kernel_rfl) ?_
  exact (cnd (F := fun r => some (e_lszOp r)) (fun _h => rfl) (fun _h => (cnd (F := fun r => some (e_lszOp r)) (fun _h => rfl) (fun _h => rfl))))
theorem run_lszOp : ∀ d, pre_lszOp d = true → runP true Try.prog tt S0 QF0 (fun _ _ => none) Try.f111 (argsMk P_lszOp d) = some (g_lszOp d) := fun d hp => runA_lszOp d.1.1 d.1.2.1 d.1.2.2.1 d.2.1
theorem c_lszOp : PContract Try.prog 111 (sumOf P_lszOp pre_lszOp g_lszOp) := PContract.of_data true G0 (fn := Try.f111) (by kernel_rfl) (L := fun _ _ => none) (by rw [show loopsIn 0 (bodyOf Try.f111) = [] by kernel_rfl]; simp) P_lszOp pre_lszOp g_lszOp run_lszOp
noncomputable def S1 : Tab := Tab.add S0 111 (lift (sumOf P_lszOp pre_lszOp g_lszOp))
noncomputable def QF1 : FuncId → Bool := qadd QF0 111
theorem G1 : Good Try.prog tt S1 QF1 := G0.addQ c_lszOp ⟨Try.f111, by kernel_rfl, by kernel_rfl, by kernel_rfl⟩ (fun _ => rfl)

/-! 96 loop.example/g00244/laws.szOpS -/
noncomputable def f_lszOpS_0 (x0 : List (Int × ByteArray × ByteArray)) (i : Nat) (b : Int) : Int := (lszOp ((x0.getD i ((0 : Int), ((⟨#[]⟩ : ByteArray), (⟨#[]⟩ : ByteArray)))).1) (((x0.getD i ((0 : Int), ((⟨#[]⟩ : ByteArray), (⟨#[]⟩ : ByteArray)))).2).1) (((x0.getD i ((0 : Int), ((⟨#[]⟩ : ByteArray), (⟨#[]⟩ : ByteArray)))).2).2) b)
noncomputable abbrev P_lszOpS : List PSh := [.t (.sl (.pair (.int .i64) (.pair .str .str))), .t (.int .i64)]
noncomputable abbrev S_lszOpS_0 : SS := ⟨[.t false (.sl (.pair (.int .i64) (.pair .str .str))), .t true (.int .i64), .junk, .junk, .junk, .t true (.int .i64), .junk, .junk, .junk, .junk, .junk, .junk, .junk, .junk, .junk, .junk, .junk, .junk, .junk, .junk, .junk, .junk, .junk, .junk, .junk, .junk, .junk], []⟩
noncomputable abbrev E_lszOpS_0_0 : SS := ⟨[.junk, .junk, .junk, .junk, .t true (.int .i64), .junk, .junk, .junk, .junk, .junk, .junk, .junk, .junk, .junk, .junk, .junk, .junk, .junk, .junk, .junk, .junk, .junk, .junk, .junk, .junk, .junk, .junk], []⟩
noncomputable abbrev E_lszOpS_0_1 : SS := ⟨[.junk, .t true (.int .i64), .junk, .junk, .junk, .junk, .junk, .junk, .junk, .junk, .junk, .junk, .junk, .junk, .junk, .junk, .junk, .junk, .junk, .junk, .junk, .junk, .junk, .junk, .junk, .junk, .junk], []⟩
noncomputable def st_lszOpS_0 (x0 : List (Int × ByteArray × ByteArray)) (x1 : Int) (x5 : Int) : RT S_lszOpS_0.den := (.br (decide (x5 < ((x0.length : Nat) : Int))) (.br (decide (0 ≤ x5 ∧ x5 < ((x0.length : Nat) : Int))) (.br (decide ((lszOp ((x0.getD x5.toNat ((0 : Int), ((⟨#[]⟩ : ByteArray), (⟨#[]⟩ : ByteArray)))).1) (((x0.getD x5.toNat ((0 : Int), ((⟨#[]⟩ : ByteArray), (⟨#[]⟩ : ByteArray)))).2).1) (((x0.getD x5.toNat ((0 : Int), ((⟨#[]⟩ : ByteArray), (⟨#[]⟩ : ByteArray)))).2).2) x1) < (0 : Int))) (.done .ret E_lszOpS_0_0 (((), (), (), (), (-1 : Int), (), (), (), (), (), (), (), (), (), (), (), (), (), (), (), (), (), (), (), (), (), (), ()), ())) (.next ((x0, (lszOp ((x0.getD x5.toNat ((0 : Int), ((⟨#[]⟩ : ByteArray), (⟨#[]⟩ : ByteArray)))).1) (((x0.getD x5.toNat ((0 : Int), ((⟨#[]⟩ : ByteArray), (⟨#[]⟩ : ByteArray)))).2).1) (((x0.getD x5.toNat ((0 : Int), ((⟨#[]⟩ : ByteArray), (⟨#[]⟩ : ByteArray)))).2).2) x1), (), (), (), IntKind.wrap .i64 (x5 + (1 : Int)), (), (), (), (), (), (), (), (), (), (), (), (), (), (), (), (), (), (), (), (), (), ()), ()))) .fail) (.done (.exit 0) E_lszOpS_0_1 (((), x1, (), (), (), (), (), (), (), (), (), (), (), (), (), (), (), (), (), (), (), (), (), (), (), (), (), ()), ())))
noncomputable def T_lszOpS_0 (x0 : List (Int × ByteArray × ByteArray)) (x1 : Int) (x5 : Int) : CT := (.br (decide (0 ≤ x5) && okL x0) (.br (isInl (szN (f_lszOpS_0 x0) (x0.length - x5.toNat) x5.toNat x1)) (.done (.exit 0) E_lszOpS_0_1 (((), (getInl (-1) (szN (f_lszOpS_0 x0) (x0.length - x5.toNat) x5.toNat x1)), (), (), (), (), (), (), (), (), (), (), (), (), (), (), (), (), (), (), (), (), (), (), (), (), (), ()), ())) (.done .ret E_lszOpS_0_0 (((), (), (), (), (-1 : Int), (), (), (), (), (), (), (), (), (), (), (), (), (), (), (), (), (), (), (), (), (), (), ()), ()))) .fail)
noncomputable abbrev sp_lszOpS_0 : S_lszOpS_0.den → RT S_lszOpS_0.den := fun d => st_lszOpS_0 d.1.1 d.1.2.1 d.1.2.2.2.2.2.1
noncomputable abbrev pk_lszOpS_0 (x0 : List (Int × ByteArray × ByteArray)) (x1 : Int) (x5 : Int) : S_lszOpS_0.den := ((x0, x1, (), (), (), x5, (), (), (), (), (), (), (), (), (), (), (), (), (), (), (), (), (), (), (), (), (), ()), ())
noncomputable def body_lszOpS_0 : Code := ((loopsIn 0 (bodyOf Try.f96)).getD 0 (0, .skip)).2
theorem R_lszOpS_0 (x0 : List (Int × ByteArray × ByteArray)) (x1 : Int) (x5 : Int) : (T_lszOpS_0 x0 x1 x5).val (D := S_lszOpS_0.den) = .fail ∨ Runs sp_lszOpS_0 (pk_lszOpS_0 x0 x1 x5) (T_lszOpS_0 x0 x1 x5).val := by
  cases hc : (decide (0 ≤ x5) && okL x0) with
  | false => left; simp only [T_lszOpS_0, CT.val, hc, cond_false]
  | true =>
    right
    simp only [T_lszOpS_0, CT.val, hc, cond_true]
    simp only [Bool.and_eq_true, decide_eq_true_eq] at hc
    obtain ⟨i, rfl⟩ := Int.eq_ofNat_of_zero_le hc.1
    have hs := okL_le hc.2
    simp only [Int.toNat_natCast]
    have h := Runs.loopN (step := sp_lszOpS_0) (fun j b => pk_lszOpS_0 x0 b (j : Int)) (fun _ _ => True) (x0.length) (fun i b => cond (decide (f_lszOpS_0 x0 i b < 0)) (.inr ()) (.inl (f_lszOpS_0 x0 i b)))
      (fin := fun b => ((.done (.exit 0) E_lszOpS_0_1 (((), b, (), (), (), (), (), (), (), (), (), (), (), (), (), (), (), (), (), (), (), (), (), (), (), (), (), ()), ())) : CT).val) (bad := fun _ => ((.done .ret E_lszOpS_0_0 (((), (), (), (), (-1 : Int), (), (), (), (), (), (), (), (), (), (), (), (), (), (), (), (), (), (), (), (), (), (), ()), ())) : CT).val)
      (fun i b hi _ => ?_) (fun i b hi _ => ?_) (x0.length - i) i x1 rfl trivial
    · simp only [szN]
      revert h
      cases loopN (fun i b => cond (decide (f_lszOpS_0 x0 i b < 0)) (.inr ()) (.inl (f_lszOpS_0 x0 i b))) (x0.length - i) i x1 with
      | inl b => exact id
      | inr c => exact id
    · 
      have h0a : decide ((i : Int) < ((x0.length : Nat) : Int)) = true := decide_eq_true (by omega)
      have h0b : decide (0 ≤ (i : Int) ∧ (i : Int) < ((x0.length : Nat) : Int)) = true := decide_eq_true (by omega)
      have e : (sp_lszOpS_0 (pk_lszOpS_0 x0 b (i : Int))).val = cond (decide (f_lszOpS_0 x0 i b < 0)) ((.done .ret E_lszOpS_0_0 (((), (), (), (), (-1 : Int), (), (), (), (), (), (), (), (), (), (), (), (), (), (), (), (), (), (), (), (), (), (), ()), ())) : CT).val (.next (pk_lszOpS_0 x0 (f_lszOpS_0 x0 i b) ((i + 1 : Nat) : Int))) := by
        simp only [sp_lszOpS_0, st_lszOpS_0, RT.val, h0a, h0b, cond_true, wrapS i (by omega), Int.toNat_natCast]
        rfl
      cases hr : decide (f_lszOpS_0 x0 i b < 0) with
      | true => exact .inr ⟨(), _, _, _, rfl, by rw [e, hr]; rfl, rfl, by simp⟩
      | false => exact .inl ⟨_, rfl, trivial, by rw [e, hr]; rfl⟩
    · have h1 : decide ((i : Int) < ((x0.length : Nat) : Int)) = false := decide_eq_false (by omega)
      exact ⟨by simp only [sp_lszOpS_0, st_lszOpS_0, RT.val, h1, cond_false]; rfl, _, _, _, rfl, by simp⟩
theorem rd_lszOpS_0 : ∀ d, execC Try.prog tt S1 QF1 (fun _ _ => none) 0 body_lszOpS_0 (S_lszOpS_0.st d 0 []) (fun e s' => some (e, S_lszOpS_0.cutE (kepts [4] [(0, [1])]) e s')) = (sp_lszOpS_0 d).opt 0 [] := by
  intro d
  kernel_rfl
noncomputable abbrev say_lszOpS_0 : St → Option Tree := S_lszOpS_0.say 0 [] [] (fun d => T_lszOpS_0 d.1.1 d.1.2.1 d.1.2.2.2.2.2.1)
theorem lw_lszOpS_0 : LoopWp Try.prog say_lszOpS_0 body_lszOpS_0 := SS.wp G1 (fun _ _ => none) (by rw [show loopsIn 0 body_lszOpS_0 = [] by kernel_rfl]; simp) S_lszOpS_0 0 [] (kepts [4] [(0, [1])]) [] sp_lszOpS_0 rd_lszOpS_0 _ (fun d => R_lszOpS_0 d.1.1 d.1.2.1 d.1.2.2.2.2.2.1)
noncomputable def lszOpS (a0 : List (Int × ByteArray × ByteArray)) (a1 : Int) : Int := (cond (decide ((IntKind.wrap .i64 (a1 - ((a0.length : Nat) : Int))) < (0 : Int))) (-1 : Int) (cond (isInl (szN (f_lszOpS_0 a0) (a0.length - (0 : Int).toNat) (0 : Int).toNat (IntKind.wrap .i64 (a1 - ((a0.length : Nat) : Int))))) (getInl (-1) (szN (f_lszOpS_0 a0) (a0.length - (0 : Int).toNat) (0 : Int).toNat (IntKind.wrap .i64 (a1 - ((a0.length : Nat) : Int))))) (-1 : Int)))
noncomputable abbrev e_lszOpS (r : Int) : AV × List AObj := ((.t true (.int .i64) r), [])
noncomputable abbrev g_lszOpS : pshsDen P_lszOpS → AV × List AObj := fun d => e_lszOpS (lszOpS d.1 d.2.1)
noncomputable def q_lszOpS (a0 : List (Int × ByteArray × ByteArray)) (a1 : Int) : Bool := decide (0 ≤ a1 ∧ a1 ≤ 1048576 ∧ a0.length ≤ 9223372036854775807)
noncomputable abbrev pre_lszOpS : pshsDen P_lszOpS → Bool := fun d => q_lszOpS d.1 d.2.1
theorem runA_lszOpS (a0 : List (Int × ByteArray × ByteArray)) (a1 : Int) (hp : (decide (0 ≤ a1 ∧ a1 ≤ 1048576 ∧ a0.length ≤ 9223372036854775807)) = true) : runP true Try.prog tt S1 QF1 (fun b => match b with | 0 => say_lszOpS_0 | _ => fun _ => none) Try.f96 (argsMk P_lszOpS (a0, (a1, ()))) = some (g_lszOpS (a0, (a1, ()))) := by
  refine Eq.trans (b := (cond (decide ((IntKind.wrap .i64 (a1 - ((a0.length : Nat) : Int))) < (0 : Int))) (some (e_lszOpS (-1 : Int))) (cond (decide (0 ≤ (0 : Int)) && okL a0) (cond (isInl (szN (f_lszOpS_0 a0) (a0.length - (0 : Int).toNat) (0 : Int).toNat (IntKind.wrap .i64 (a1 - ((a0.length : Nat) : Int))))) (some (e_lszOpS (getInl (-1) (szN (f_lszOpS_0 a0) (a0.length - (0 : Int).toNat) (0 : Int).toNat (IntKind.wrap .i64 (a1 - ((a0.length : Nat) : Int))))))) (some (e_lszOpS (-1 : Int)))) none))) (by kernel_rfl) ?_
  exact (cnd (F := fun r => some (e_lszOpS r)) (fun _h => rfl) (fun _h => (cndT (by simp only [decide_eq_true_eq, decide_eq_false_iff_not] at hp _h; have hw := wrap64 (n := a1 - ((a0.length : Nat) : Int)) (by omega) (by omega); rw [hw] at _h; simp [okL]; omega) (fun _h => (cnd (F := fun r => some (e_lszOpS r)) (fun _h => rfl) (fun _h => rfl))))))
theorem run_lszOpS : ∀ d, pre_lszOpS d = true → runP true Try.prog tt S1 QF1 (fun b => match b with | 0 => say_lszOpS_0 | _ => fun _ => none) Try.f96 (argsMk P_lszOpS d) = some (g_lszOpS d) := fun d hp => runA_lszOpS d.1 d.2.1 hp
theorem c_lszOpS : PContract Try.prog 96 (sumOf P_lszOpS pre_lszOpS g_lszOpS) := PContract.of_data true G1 (fn := Try.f96) (by kernel_rfl) (L := fun b => match b with | 0 => say_lszOpS_0 | _ => fun _ => none) (by rw [show loopsIn 0 (bodyOf Try.f96) = [(0, body_lszOpS_0)] by kernel_rfl]; intro p hp; simp only [List.mem_singleton] at hp; subst hp; exact lw_lszOpS_0) P_lszOpS pre_lszOpS g_lszOpS run_lszOpS
noncomputable def S2 : Tab := Tab.add S1 96 (lift (sumOf P_lszOpS pre_lszOpS g_lszOpS))
noncomputable def QF2 : FuncId → Bool := qadd QF1 96
theorem G2 : Good Try.prog tt S2 QF2 := G1.addQ c_lszOpS ⟨Try.f96, by kernel_rfl, by kernel_rfl, by kernel_rfl⟩ (fun _ => rfl)

/-! 108 loop.example/g00244/laws.szIntS -/
noncomputable abbrev P_lszIntS : List PSh := [.t (.sl (.int .i64)), .t (.int .i64)]
noncomputable def lszIntS (a0 : List Int) (a1 : Int) : Int := (cond (decide ((IntKind.wrap .i64 (a1 - ((a0.length : Nat) : Int))) < (0 : Int))) (-1 : Int) (IntKind.wrap .i64 (a1 - ((a0.length : Nat) : Int))))
noncomputable abbrev e_lszIntS (r : Int) : AV × List AObj := ((.t true (.int .i64) r), [])
noncomputable abbrev g_lszIntS : pshsDen P_lszIntS → AV × List AObj := fun d => e_lszIntS (lszIntS d.1 d.2.1)
noncomputable abbrev pre_lszIntS : pshsDen P_lszIntS → Bool := fun d => true
theorem runA_lszIntS (a0 : List Int) (a1 : Int) : runP true Try.prog tt S2 QF2 (fun _ _ => none) Try.f108 (argsMk P_lszIntS (a0, (a1, ()))) = some (g_lszIntS (a0, (a1, ()))) := by
  refine Eq.trans (b := (cond (decide ((IntKind.wrap .i64 (a1 - ((a0.length : Nat) : Int))) < (0 : Int))) (some (e_lszIntS (-1 : Int))) (some (e_lszIntS (IntKind.wrap .i64 (a1 - ((a0.length : Nat) : Int))))))) (by kernel_rfl) ?_
  exact (cnd (F := fun r => some (e_lszIntS r)) (fun _h => rfl) (fun _h => rfl))
theorem run_lszIntS : ∀ d, pre_lszIntS d = true → runP true Try.prog tt S2 QF2 (fun _ _ => none) Try.f108 (argsMk P_lszIntS d) = some (g_lszIntS d) := fun d hp => runA_lszIntS d.1 d.2.1
theorem c_lszIntS : PContract Try.prog 108 (sumOf P_lszIntS pre_lszIntS g_lszIntS) := PContract.of_data true G2 (fn := Try.f108) (by kernel_rfl) (L := fun _ _ => none) (by rw [show loopsIn 0 (bodyOf Try.f108) = [] by kernel_rfl]; simp) P_lszIntS pre_lszIntS g_lszIntS run_lszIntS
noncomputable def S3 : Tab := Tab.add S2 108 (lift (sumOf P_lszIntS pre_lszIntS g_lszIntS))
noncomputable def QF3 : FuncId → Bool := qadd QF2 108
theorem G3 : Good Try.prog tt S3 QF3 := G2.addQ c_lszIntS ⟨Try.f108, by kernel_rfl, by kernel_rfl, by kernel_rfl⟩ (fun _ => rfl)

/-! 93 loop.example/g00244/laws.szJob -/
noncomputable abbrev P_lszJob : List PSh := [.agg [(.int .i64), (.sl (.pair (.int .i64) (.pair .str .str))), (.int .i64), (.sl (.int .i64))], .t (.int .i64)]
noncomputable def lszJob (a0 : Int) (a1 : List (Int × ByteArray × ByteArray)) (a2 : Int) (a3 : List Int) (a4 : Int) : Int := (cond (decide ((lszOpS a1 a4) < (0 : Int))) (-1 : Int) (cond (decide ((lszIntS a3 (lszOpS a1 a4)) < (0 : Int))) (-1 : Int) (lszIntS a3 (lszOpS a1 a4))))
noncomputable abbrev e_lszJob (r : Int) : AV × List AObj := ((.t true (.int .i64) r), [])
noncomputable abbrev g_lszJob : pshsDen P_lszJob → AV × List AObj := fun d => e_lszJob (lszJob d.1.1 d.1.2.1 d.1.2.2.1 d.1.2.2.2.1 d.2.1)
noncomputable def q_lszJob (a0 : Int) (a1 : List (Int × ByteArray × ByteArray)) (a2 : Int) (a3 : List Int) (a4 : Int) : Bool := q_lszOpS a1 a4
noncomputable abbrev pre_lszJob : pshsDen P_lszJob → Bool := fun d => q_lszJob d.1.1 d.1.2.1 d.1.2.2.1 d.1.2.2.2.1 d.2.1
theorem runA_lszJob (a0 : Int) (a1 : List (Int × ByteArray × ByteArray)) (a2 : Int) (a3 : List Int) (a4 : Int) (hp : (q_lszOpS a1 a4) = true) : runP true Try.prog tt S3 QF3 (fun _ _ => none) Try.f93 (argsMk P_lszJob ((a0, (a1, (a2, (a3, ())))), (a4, ()))) = some (g_lszJob ((a0, (a1, (a2, (a3, ())))), (a4, ()))) := by
  refine Eq.trans (b := (cond (q_lszOpS a1 a4) (cond (decide ((lszOpS a1 a4) < (0 : Int))) (some (e_lszJob (-1 : Int))) (cond (decide ((lszIntS a3 (lszOpS a1 a4)) < (0 : Int))) (some (e_lszJob (-1 : Int))) (some (e_lszJob (lszIntS a3 (lszOpS a1 a4)))))) none)) (by kernel_rfl) ?_
  exact (cndT hp (fun _h => (cnd (F := fun r => some (e_lszJob r)) (fun _h => rfl) (fun _h => (cnd (F := fun r => some (e_lszJob r)) (fun _h => rfl) (fun _h => rfl))))))
theorem run_lszJob : ∀ d, pre_lszJob d = true → runP true Try.prog tt S3 QF3 (fun _ _ => none) Try.f93 (argsMk P_lszJob d) = some (g_lszJob d) := fun d hp => runA_lszJob d.1.1 d.1.2.1 d.1.2.2.1 d.1.2.2.2.1 d.2.1 hp
theorem c_lszJob : PContract Try.prog 93 (sumOf P_lszJob pre_lszJob g_lszJob) := PContract.of_data true G3 (fn := Try.f93) (by kernel_rfl) (L := fun _ _ => none) (by rw [show loopsIn 0 (bodyOf Try.f93) = [] by kernel_rfl]; simp) P_lszJob pre_lszJob g_lszJob run_lszJob
noncomputable def S4 : Tab := Tab.add S3 93 (lift (sumOf P_lszJob pre_lszJob g_lszJob))
noncomputable def QF4 : FuncId → Bool := qadd QF3 93
theorem G4 : Good Try.prog tt S4 QF4 := G3.addQ c_lszJob ⟨Try.f93, by kernel_rfl, by kernel_rfl, by kernel_rfl⟩ (fun _ => rfl)

/-! 71 loop.example/g00244/laws.szJobS -/
noncomputable abbrev P_lszJobS : List PSh := [.t (.sl (.pair (.int .i64) (.pair (.sl (.pair (.int .i64) (.pair .str .str))) (.pair (.int .i64) (.sl (.int .i64)))))), .t (.int .i64)]
noncomputable abbrev S_lszJobS_0 : SS := ⟨[.t false (.sl (.pair (.int .i64) (.pair (.sl (.pair (.int .i64) (.pair .str .str))) (.pair (.int .i64) (.sl (.int .i64)))))), .t true (.int .i64), .junk, .junk, .junk, .t true (.int .i64), .junk, .junk, .junk, .junk, .junk, .junk, .junk, .junk, .junk, .junk, .junk, .junk, .junk, .junk, .junk, .junk, .junk, .junk, .junk, .junk, .junk], []⟩
noncomputable abbrev E_lszJobS_0_0 : SS := ⟨[.junk, .junk, .junk, .junk, .t true (.int .i64), .junk, .junk, .junk, .junk, .junk, .junk, .junk, .junk, .junk, .junk, .junk, .junk, .junk, .junk, .junk, .junk, .junk, .junk, .junk, .junk, .junk, .junk], []⟩
noncomputable abbrev E_lszJobS_0_1 : SS := ⟨[.junk, .t true (.int .i64), .junk, .junk, .junk, .junk, .junk, .junk, .junk, .junk, .junk, .junk, .junk, .junk, .junk, .junk, .junk, .junk, .junk, .junk, .junk, .junk, .junk, .junk, .junk, .junk, .junk], []⟩
noncomputable def st_lszJobS_0 (x0 : List (Int × (List (Int × ByteArray × ByteArray)) × Int × List Int)) (x1 : Int) (x5 : Int) : RT S_lszJobS_0.den := (.br (decide (x5 < ((x0.length : Nat) : Int))) (.br (decide (0 ≤ x5 ∧ x5 < ((x0.length : Nat) : Int))) (.br (q_lszJob ((x0.getD x5.toNat ((0 : Int), ([], ((0 : Int), [])))).1) (((x0.getD x5.toNat ((0 : Int), ([], ((0 : Int), [])))).2).1) ((((x0.getD x5.toNat ((0 : Int), ([], ((0 : Int), [])))).2).2).1) ((((x0.getD x5.toNat ((0 : Int), ([], ((0 : Int), [])))).2).2).2) x1) (.br (decide ((lszJob ((x0.getD x5.toNat ((0 : Int), ([], ((0 : Int), [])))).1) (((x0.getD x5.toNat ((0 : Int), ([], ((0 : Int), [])))).2).1) ((((x0.getD x5.toNat ((0 : Int), ([], ((0 : Int), [])))).2).2).1) ((((x0.getD x5.toNat ((0 : Int), ([], ((0 : Int), [])))).2).2).2) x1) < (0 : Int))) (.done .ret E_lszJobS_0_0 (((), (), (), (), (-1 : Int), (), (), (), (), (), (), (), (), (), (), (), (), (), (), (), (), (), (), (), (), (), (), ()), ())) (.next ((x0, (lszJob ((x0.getD x5.toNat ((0 : Int), ([], ((0 : Int), [])))).1) (((x0.getD x5.toNat ((0 : Int), ([], ((0 : Int), [])))).2).1) ((((x0.getD x5.toNat ((0 : Int), ([], ((0 : Int), [])))).2).2).1) ((((x0.getD x5.toNat ((0 : Int), ([], ((0 : Int), [])))).2).2).2) x1), (), (), (), IntKind.wrap .i64 (x5 + (1 : Int)), (), (), (), (), (), (), (), (), (), (), (), (), (), (), (), (), (), (), (), (), (), ()), ()))) .fail) .fail) (.done (.exit 0) E_lszJobS_0_1 (((), x1, (), (), (), (), (), (), (), (), (), (), (), (), (), (), (), (), (), (), (), (), (), (), (), (), (), ()), ())))
noncomputable abbrev V_lszJobS_0 := (List (Int × (List (Int × ByteArray × ByteArray)) × Int × List Int)) × (Int) × (Int)
noncomputable abbrev A_lszJobS_0 := Nat × (Int) × (Int)
noncomputable def fl_lszJobS_0 : A_lszJobS_0 := (99, ((0 : Int) : Int), ((0 : Int) : Int))
noncomputable def ss_lszJobS_0 (x0 : List (Int × (List (Int × ByteArray × ByteArray)) × Int × List Int)) (x1 : Int) (x5 : Int) : V_lszJobS_0 ⊕ A_lszJobS_0 := (cond (decide (x5 < ((x0.length : Nat) : Int))) (cond (decide (0 ≤ x5 ∧ x5 < ((x0.length : Nat) : Int))) (cond (q_lszJob ((x0.getD x5.toNat ((0 : Int), ([], ((0 : Int), [])))).1) (((x0.getD x5.toNat ((0 : Int), ([], ((0 : Int), [])))).2).1) ((((x0.getD x5.toNat ((0 : Int), ([], ((0 : Int), [])))).2).2).1) ((((x0.getD x5.toNat ((0 : Int), ([], ((0 : Int), [])))).2).2).2) x1) (cond (decide ((lszJob ((x0.getD x5.toNat ((0 : Int), ([], ((0 : Int), [])))).1) (((x0.getD x5.toNat ((0 : Int), ([], ((0 : Int), [])))).2).1) ((((x0.getD x5.toNat ((0 : Int), ([], ((0 : Int), [])))).2).2).1) ((((x0.getD x5.toNat ((0 : Int), ([], ((0 : Int), [])))).2).2).2) x1) < (0 : Int))) (.inr (0, (-1 : Int), ((0 : Int) : Int))) (.inl (x0, (lszJob ((x0.getD x5.toNat ((0 : Int), ([], ((0 : Int), [])))).1) (((x0.getD x5.toNat ((0 : Int), ([], ((0 : Int), [])))).2).1) ((((x0.getD x5.toNat ((0 : Int), ([], ((0 : Int), [])))).2).2).1) ((((x0.getD x5.toNat ((0 : Int), ([], ((0 : Int), [])))).2).2).2) x1), IntKind.wrap .i64 (x5 + (1 : Int))))) (.inr fl_lszJobS_0)) (.inr fl_lszJobS_0)) (.inr (1, ((0 : Int) : Int), x1)))
noncomputable def it_lszJobS_0 (x0 : List (Int × (List (Int × ByteArray × ByteArray)) × Int × List Int)) (x1 : Int) (x5 : Int) : A_lszJobS_0 := itX (fun v : V_lszJobS_0 => ss_lszJobS_0 v.1 v.2.1 v.2.2) fl_lszJobS_0 (x0, x1, x5)
noncomputable def ct_lszJobS_0 (a : A_lszJobS_0) : CT := (.br (a.1 == 0) (.done .ret E_lszJobS_0_0 (((), (), (), (), a.2.1, (), (), (), (), (), (), (), (), (), (), (), (), (), (), (), (), (), (), (), (), (), (), ()), ())) (.br (a.1 == 1) (.done (.exit 0) E_lszJobS_0_1 (((), a.2.2, (), (), (), (), (), (), (), (), (), (), (), (), (), (), (), (), (), (), (), (), (), (), (), (), (), ()), ())) .fail))
noncomputable def T_lszJobS_0 (x0 : List (Int × (List (Int × ByteArray × ByteArray)) × Int × List Int)) (x1 : Int) (x5 : Int) : CT := ct_lszJobS_0 (it_lszJobS_0 x0 x1 x5)
noncomputable abbrev sp_lszJobS_0 : S_lszJobS_0.den → RT S_lszJobS_0.den := fun d => st_lszJobS_0 d.1.1 d.1.2.1 d.1.2.2.2.2.2.1
noncomputable abbrev pk_lszJobS_0 (x0 : List (Int × (List (Int × ByteArray × ByteArray)) × Int × List Int)) (x1 : Int) (x5 : Int) : S_lszJobS_0.den := ((x0, x1, (), (), (), x5, (), (), (), (), (), (), (), (), (), (), (), (), (), (), (), (), (), (), (), (), (), ()), ())
noncomputable def body_lszJobS_0 : Code := ((loopsIn 0 (bodyOf Try.f71)).getD 0 (0, .skip)).2
theorem R_lszJobS_0 (x0 : List (Int × (List (Int × ByteArray × ByteArray)) × Int × List Int)) (x1 : Int) (x5 : Int) : (T_lszJobS_0 x0 x1 x5).val (D := S_lszJobS_0.den) = .fail ∨ Runs sp_lszJobS_0 (pk_lszJobS_0 x0 x1 x5) (T_lszJobS_0 x0 x1 x5).val := Runs.ofIt (step := sp_lszJobS_0) (fun v : V_lszJobS_0 => pk_lszJobS_0 v.1 v.2.1 v.2.2) (ct := ct_lszJobS_0) rfl (fun v => ((relB (relB (relB (relB rfl rfl) rfl) rfl) rfl) : (st_lszJobS_0 v.1 v.2.1 v.2.2).val = relS (fun v : V_lszJobS_0 => pk_lszJobS_0 v.1 v.2.1 v.2.2) ct_lszJobS_0 (ss_lszJobS_0 v.1 v.2.1 v.2.2))) (fun a => ((cendB (cendD (by simp)) (cendB (cendD (by simp)) cendF)) : CEnd _ (ct_lszJobS_0 a))) (x0, x1, x5)
theorem rd_lszJobS_0 : ∀ d, execC Try.prog tt S4 QF4 (fun _ _ => none) 0 body_lszJobS_0 (S_lszJobS_0.st d 0 []) (fun e s' => some (e, S_lszJobS_0.cutE (kepts [4] [(0, [1])]) e s')) = (sp_lszJobS_0 d).opt 0 [] := by
  intro d
  kernel_rfl
noncomputable abbrev say_lszJobS_0 : St → Option Tree := S_lszJobS_0.say 0 [] [] (fun d => T_lszJobS_0 d.1.1 d.1.2.1 d.1.2.2.2.2.2.1)
theorem lw_lszJobS_0 : LoopWp Try.prog say_lszJobS_0 body_lszJobS_0 := SS.wp G4 (fun _ _ => none) (by rw [show loopsIn 0 body_lszJobS_0 = [] by kernel_rfl]; simp) S_lszJobS_0 0 [] (kepts [4] [(0, [1])]) [] sp_lszJobS_0 rd_lszJobS_0 _ (fun d => R_lszJobS_0 d.1.1 d.1.2.1 d.1.2.2.2.2.2.1)
noncomputable def lszJobS (a0 : List (Int × (List (Int × ByteArray × ByteArray)) × Int × List Int)) (a1 : Int) : Int := (cond (decide ((IntKind.wrap .i64 (a1 - ((a0.length : Nat) : Int))) < (0 : Int))) (-1 : Int) (cond ((it_lszJobS_0 a0 (IntKind.wrap .i64 (a1 - ((a0.length : Nat) : Int))) (0 : Int)).1 == 0) ((it_lszJobS_0 a0 (IntKind.wrap .i64 (a1 - ((a0.length : Nat) : Int))) (0 : Int)).2.1) ((it_lszJobS_0 a0 (IntKind.wrap .i64 (a1 - ((a0.length : Nat) : Int))) (0 : Int)).2.2)))
noncomputable abbrev e_lszJobS (r : Int) : AV × List AObj := ((.t true (.int .i64) r), [])
noncomputable abbrev g_lszJobS : pshsDen P_lszJobS → AV × List AObj := fun d => e_lszJobS (lszJobS d.1 d.2.1)
noncomputable def q_lszJobS (a0 : List (Int × (List (Int × ByteArray × ByteArray)) × Int × List Int)) (a1 : Int) : Bool := cond (decide ((IntKind.wrap .i64 (a1 - ((a0.length : Nat) : Int))) < (0 : Int))) true (cond ((it_lszJobS_0 a0 (IntKind.wrap .i64 (a1 - ((a0.length : Nat) : Int))) (0 : Int)).1 == 0) true ((it_lszJobS_0 a0 (IntKind.wrap .i64 (a1 - ((a0.length : Nat) : Int))) (0 : Int)).1 == 1))
noncomputable abbrev pre_lszJobS : pshsDen P_lszJobS → Bool := fun d => q_lszJobS d.1 d.2.1
theorem runA_lszJobS (a0 : List (Int × (List (Int × ByteArray × ByteArray)) × Int × List Int)) (a1 : Int) (hp : (cond (decide ((IntKind.wrap .i64 (a1 - ((a0.length : Nat) : Int))) < (0 : Int))) true (cond ((it_lszJobS_0 a0 (IntKind.wrap .i64 (a1 - ((a0.length : Nat) : Int))) (0 : Int)).1 == 0) true ((it_lszJobS_0 a0 (IntKind.wrap .i64 (a1 - ((a0.length : Nat) : Int))) (0 : Int)).1 == 1))) = true) : runP true Try.prog tt S4 QF4 (fun b => match b with | 0 => say_lszJobS_0 | _ => fun _ => none) Try.f71 (argsMk P_lszJobS (a0, (a1, ()))) = some (g_lszJobS (a0, (a1, ()))) := by
  refine Eq.trans (b := (cond (decide ((IntKind.wrap .i64 (a1 - ((a0.length : Nat) : Int))) < (0 : Int))) (some (e_lszJobS (-1 : Int))) (cond ((it_lszJobS_0 a0 (IntKind.wrap .i64 (a1 - ((a0.length : Nat) : Int))) (0 : Int)).1 == 0) (some (e_lszJobS ((it_lszJobS_0 a0 (IntKind.wrap .i64 (a1 - ((a0.length : Nat) : Int))) (0 : Int)).2.1))) (cond ((it_lszJobS_0 a0 (IntKind.wrap .i64 (a1 - ((a0.length : Nat) : Int))) (0 : Int)).1 == 1) (some (e_lszJobS ((it_lszJobS_0 a0 (IntKind.wrap .i64 (a1 - ((a0.length : Nat) : Int))) (0 : Int)).2.2))) none)))) (by kernel_rfl) ?_
  exact (cndQ (F := fun r => some (e_lszJobS r)) hp (fun hp => rfl) (fun hp => (cndQ (F := fun r => some (e_lszJobS r)) hp (fun hp => rfl) (fun hp => (cndT hp (fun _h => rfl))))))
theorem run_lszJobS : ∀ d, pre_lszJobS d = true → runP true Try.prog tt S4 QF4 (fun b => match b with | 0 => say_lszJobS_0 | _ => fun _ => none) Try.f71 (argsMk P_lszJobS d) = some (g_lszJobS d) := fun d hp => runA_lszJobS d.1 d.2.1 hp
theorem c_lszJobS : PContract Try.prog 71 (sumOf P_lszJobS pre_lszJobS g_lszJobS) := PContract.of_data true G4 (fn := Try.f71) (by kernel_rfl) (L := fun b => match b with | 0 => say_lszJobS_0 | _ => fun _ => none) (by rw [show loopsIn 0 (bodyOf Try.f71) = [(0, body_lszJobS_0)] by kernel_rfl]; intro p hp; simp only [List.mem_singleton] at hp; subst hp; exact lw_lszJobS_0) P_lszJobS pre_lszJobS g_lszJobS run_lszJobS
noncomputable def S5 : Tab := Tab.add S4 71 (lift (sumOf P_lszJobS pre_lszJobS g_lszJobS))
noncomputable def QF5 : FuncId → Bool := qadd QF4 71
theorem G5 : Good Try.prog tt S5 QF5 := G4.addQ c_lszJobS ⟨Try.f71, by kernel_rfl, by kernel_rfl, by kernel_rfl⟩ (fun _ => rfl)

/-! 72 loop.example/g00244/laws.szChoiceS -/
noncomputable abbrev P_lszChoiceS : List PSh := [.t (.sl (.pair (.int .i64) .bool)), .t (.int .i64)]
noncomputable def lszChoiceS (a0 : List (Int × Bool)) (a1 : Int) : Int := (cond (decide ((IntKind.wrap .i64 (a1 - ((a0.length : Nat) : Int))) < (0 : Int))) (-1 : Int) (IntKind.wrap .i64 (a1 - ((a0.length : Nat) : Int))))
noncomputable abbrev e_lszChoiceS (r : Int) : AV × List AObj := ((.t true (.int .i64) r), [])
noncomputable abbrev g_lszChoiceS : pshsDen P_lszChoiceS → AV × List AObj := fun d => e_lszChoiceS (lszChoiceS d.1 d.2.1)
noncomputable abbrev pre_lszChoiceS : pshsDen P_lszChoiceS → Bool := fun d => true
theorem runA_lszChoiceS (a0 : List (Int × Bool)) (a1 : Int) : runP true Try.prog tt S5 QF5 (fun _ _ => none) Try.f72 (argsMk P_lszChoiceS (a0, (a1, ()))) = some (g_lszChoiceS (a0, (a1, ()))) := by
  refine Eq.trans (b := (cond (decide ((IntKind.wrap .i64 (a1 - ((a0.length : Nat) : Int))) < (0 : Int))) (some (e_lszChoiceS (-1 : Int))) (some (e_lszChoiceS (IntKind.wrap .i64 (a1 - ((a0.length : Nat) : Int))))))) (by kernel_rfl) ?_
  exact (cnd (F := fun r => some (e_lszChoiceS r)) (fun _h => rfl) (fun _h => rfl))
theorem run_lszChoiceS : ∀ d, pre_lszChoiceS d = true → runP true Try.prog tt S5 QF5 (fun _ _ => none) Try.f72 (argsMk P_lszChoiceS d) = some (g_lszChoiceS d) := fun d hp => runA_lszChoiceS d.1 d.2.1
theorem c_lszChoiceS : PContract Try.prog 72 (sumOf P_lszChoiceS pre_lszChoiceS g_lszChoiceS) := PContract.of_data true G5 (fn := Try.f72) (by kernel_rfl) (L := fun _ _ => none) (by rw [show loopsIn 0 (bodyOf Try.f72) = [] by kernel_rfl]; simp) P_lszChoiceS pre_lszChoiceS g_lszChoiceS run_lszChoiceS
noncomputable def S6 : Tab := Tab.add S5 72 (lift (sumOf P_lszChoiceS pre_lszChoiceS g_lszChoiceS))
noncomputable def QF6 : FuncId → Bool := qadd QF5 72
theorem G6 : Good Try.prog tt S6 QF6 := G5.addQ c_lszChoiceS ⟨Try.f72, by kernel_rfl, by kernel_rfl, by kernel_rfl⟩ (fun _ => rfl)

/-! 38 loop.example/g00244/laws.szCoord -/
noncomputable abbrev P_lszCoord : List PSh := [.agg [(.int .i64), (.int .i64), (.int .i64), (.sl (.pair (.int .i64) (.pair (.sl (.pair (.int .i64) (.pair .str .str))) (.pair (.int .i64) (.sl (.int .i64)))))), (.sl (.pair (.int .i64) .bool)), (.int .i64)], .t (.int .i64)]
noncomputable def lszCoord (a0 : Int) (a1 : Int) (a2 : Int) (a3 : List (Int × (List (Int × ByteArray × ByteArray)) × Int × List Int)) (a4 : List (Int × Bool)) (a5 : Int) (a6 : Int) : Int := (cond (decide ((lszJobS a3 a6) < (0 : Int))) (-1 : Int) (cond (decide ((lszChoiceS a4 (lszJobS a3 a6)) < (0 : Int))) (-1 : Int) (lszChoiceS a4 (lszJobS a3 a6))))
noncomputable abbrev e_lszCoord (r : Int) : AV × List AObj := ((.t true (.int .i64) r), [])
noncomputable abbrev g_lszCoord : pshsDen P_lszCoord → AV × List AObj := fun d => e_lszCoord (lszCoord d.1.1 d.1.2.1 d.1.2.2.1 d.1.2.2.2.1 d.1.2.2.2.2.1 d.1.2.2.2.2.2.1 d.2.1)
noncomputable def q_lszCoord (a0 : Int) (a1 : Int) (a2 : Int) (a3 : List (Int × (List (Int × ByteArray × ByteArray)) × Int × List Int)) (a4 : List (Int × Bool)) (a5 : Int) (a6 : Int) : Bool := q_lszJobS a3 a6
noncomputable abbrev pre_lszCoord : pshsDen P_lszCoord → Bool := fun d => q_lszCoord d.1.1 d.1.2.1 d.1.2.2.1 d.1.2.2.2.1 d.1.2.2.2.2.1 d.1.2.2.2.2.2.1 d.2.1
theorem runA_lszCoord (a0 : Int) (a1 : Int) (a2 : Int) (a3 : List (Int × (List (Int × ByteArray × ByteArray)) × Int × List Int)) (a4 : List (Int × Bool)) (a5 : Int) (a6 : Int) (hp : (q_lszJobS a3 a6) = true) : runP true Try.prog tt S6 QF6 (fun _ _ => none) Try.f38 (argsMk P_lszCoord ((a0, (a1, (a2, (a3, (a4, (a5, ())))))), (a6, ()))) = some (g_lszCoord ((a0, (a1, (a2, (a3, (a4, (a5, ())))))), (a6, ()))) := by
  refine Eq.trans (b := (cond (q_lszJobS a3 a6) (cond (decide ((lszJobS a3 a6) < (0 : Int))) (some (e_lszCoord (-1 : Int))) (cond (decide ((lszChoiceS a4 (lszJobS a3 a6)) < (0 : Int))) (some (e_lszCoord (-1 : Int))) (some (e_lszCoord (lszChoiceS a4 (lszJobS a3 a6)))))) none)) (by kernel_rfl) ?_
  exact (cndT hp (fun _h => (cnd (F := fun r => some (e_lszCoord r)) (fun _h => rfl) (fun _h => (cnd (F := fun r => some (e_lszCoord r)) (fun _h => rfl) (fun _h => rfl))))))
theorem run_lszCoord : ∀ d, pre_lszCoord d = true → runP true Try.prog tt S6 QF6 (fun _ _ => none) Try.f38 (argsMk P_lszCoord d) = some (g_lszCoord d) := fun d hp => runA_lszCoord d.1.1 d.1.2.1 d.1.2.2.1 d.1.2.2.2.1 d.1.2.2.2.2.1 d.1.2.2.2.2.2.1 d.2.1 hp
theorem c_lszCoord : PContract Try.prog 38 (sumOf P_lszCoord pre_lszCoord g_lszCoord) := PContract.of_data true G6 (fn := Try.f38) (by kernel_rfl) (L := fun _ _ => none) (by rw [show loopsIn 0 (bodyOf Try.f38) = [] by kernel_rfl]; simp) P_lszCoord pre_lszCoord g_lszCoord run_lszCoord
noncomputable def S7 : Tab := Tab.add S6 38 (lift (sumOf P_lszCoord pre_lszCoord g_lszCoord))
noncomputable def QF7 : FuncId → Bool := qadd QF6 38
theorem G7 : Good Try.prog tt S7 QF7 := G6.addQ c_lszCoord ⟨Try.f38, by kernel_rfl, by kernel_rfl, by kernel_rfl⟩ (fun _ => rfl)

/-! 109 loop.example/g00244/laws.szRec -/
noncomputable abbrev P_lszRec : List PSh := [.agg [(.int .i64), (.int .i64), (.sl (.pair (.int .i64) (.pair .str .str)))], .t (.int .i64)]
noncomputable def lszRec (a0 : Int) (a1 : Int) (a2 : List (Int × ByteArray × ByteArray)) (a3 : Int) : Int := (cond (decide ((lszOpS a2 a3) < (0 : Int))) (-1 : Int) (lszOpS a2 a3))
noncomputable abbrev e_lszRec (r : Int) : AV × List AObj := ((.t true (.int .i64) r), [])
noncomputable abbrev g_lszRec : pshsDen P_lszRec → AV × List AObj := fun d => e_lszRec (lszRec d.1.1 d.1.2.1 d.1.2.2.1 d.2.1)
noncomputable def q_lszRec (a0 : Int) (a1 : Int) (a2 : List (Int × ByteArray × ByteArray)) (a3 : Int) : Bool := decide (0 ≤ a3 ∧ a3 ≤ 1048576 ∧ a2.length ≤ 9223372036854775807)
noncomputable abbrev pre_lszRec : pshsDen P_lszRec → Bool := fun d => q_lszRec d.1.1 d.1.2.1 d.1.2.2.1 d.2.1
theorem runA_lszRec (a0 : Int) (a1 : Int) (a2 : List (Int × ByteArray × ByteArray)) (a3 : Int) (hp : (decide (0 ≤ a3 ∧ a3 ≤ 1048576 ∧ a2.length ≤ 9223372036854775807)) = true) : runP true Try.prog tt S7 QF7 (fun _ _ => none) Try.f109 (argsMk P_lszRec ((a0, (a1, (a2, ()))), (a3, ()))) = some (g_lszRec ((a0, (a1, (a2, ()))), (a3, ()))) := by
  refine Eq.trans (b := (cond (q_lszOpS a2 a3) (cond (decide ((lszOpS a2 a3) < (0 : Int))) (some (e_lszRec (-1 : Int))) (some (e_lszRec (lszOpS a2 a3)))) none)) (by kernel_rfl) ?_
  exact (cndT (by first | rfl | decide | exact hp | (simp only [Bool.and_eq_true] at hp; simp only [hp]; done) | (simp [*]; done) | (simp [okL] at hp; simp [okL, MAXB]; omega) | (simp_all; done) | (simp at *; omega)) (fun _h => (cnd (F := fun r => some (e_lszRec r)) (fun _h => rfl) (fun _h => rfl))))
theorem run_lszRec : ∀ d, pre_lszRec d = true → runP true Try.prog tt S7 QF7 (fun _ _ => none) Try.f109 (argsMk P_lszRec d) = some (g_lszRec d) := fun d hp => runA_lszRec d.1.1 d.1.2.1 d.1.2.2.1 d.2.1 hp
theorem c_lszRec : PContract Try.prog 109 (sumOf P_lszRec pre_lszRec g_lszRec) := PContract.of_data true G7 (fn := Try.f109) (by kernel_rfl) (L := fun _ _ => none) (by rw [show loopsIn 0 (bodyOf Try.f109) = [] by kernel_rfl]; simp) P_lszRec pre_lszRec g_lszRec run_lszRec
noncomputable def S8 : Tab := Tab.add S7 109 (lift (sumOf P_lszRec pre_lszRec g_lszRec))
noncomputable def QF8 : FuncId → Bool := qadd QF7 109
theorem G8 : Good Try.prog tt S8 QF8 := G7.addQ c_lszRec ⟨Try.f109, by kernel_rfl, by kernel_rfl, by kernel_rfl⟩ (fun _ => rfl)

/-! 94 loop.example/g00244/laws.szRecS -/
noncomputable abbrev P_lszRecS : List PSh := [.t (.sl (.pair (.int .i64) (.pair (.int .i64) (.sl (.pair (.int .i64) (.pair .str .str)))))), .t (.int .i64)]
noncomputable abbrev S_lszRecS_0 : SS := ⟨[.t false (.sl (.pair (.int .i64) (.pair (.int .i64) (.sl (.pair (.int .i64) (.pair .str .str)))))), .t true (.int .i64), .junk, .junk, .junk, .t true (.int .i64), .junk, .junk, .junk, .junk, .junk, .junk, .junk, .junk, .junk, .junk, .junk, .junk, .junk, .junk, .junk, .junk, .junk, .junk, .junk, .junk, .junk], []⟩
noncomputable abbrev E_lszRecS_0_0 : SS := ⟨[.junk, .junk, .junk, .junk, .t true (.int .i64), .junk, .junk, .junk, .junk, .junk, .junk, .junk, .junk, .junk, .junk, .junk, .junk, .junk, .junk, .junk, .junk, .junk, .junk, .junk, .junk, .junk, .junk], []⟩
noncomputable abbrev E_lszRecS_0_1 : SS := ⟨[.junk, .t true (.int .i64), .junk, .junk, .junk, .junk, .junk, .junk, .junk, .junk, .junk, .junk, .junk, .junk, .junk, .junk, .junk, .junk, .junk, .junk, .junk, .junk, .junk, .junk, .junk, .junk, .junk], []⟩
noncomputable def st_lszRecS_0 (x0 : List (Int × Int × List (Int × ByteArray × ByteArray))) (x1 : Int) (x5 : Int) : RT S_lszRecS_0.den := (.br (decide (x5 < ((x0.length : Nat) : Int))) (.br (decide (0 ≤ x5 ∧ x5 < ((x0.length : Nat) : Int))) (.br (q_lszRec ((x0.getD x5.toNat ((0 : Int), ((0 : Int), []))).1) (((x0.getD x5.toNat ((0 : Int), ((0 : Int), []))).2).1) (((x0.getD x5.toNat ((0 : Int), ((0 : Int), []))).2).2) x1) (.br (decide ((lszRec ((x0.getD x5.toNat ((0 : Int), ((0 : Int), []))).1) (((x0.getD x5.toNat ((0 : Int), ((0 : Int), []))).2).1) (((x0.getD x5.toNat ((0 : Int), ((0 : Int), []))).2).2) x1) < (0 : Int))) (.done .ret E_lszRecS_0_0 (((), (), (), (), (-1 : Int), (), (), (), (), (), (), (), (), (), (), (), (), (), (), (), (), (), (), (), (), (), (), ()), ())) (.next ((x0, (lszRec ((x0.getD x5.toNat ((0 : Int), ((0 : Int), []))).1) (((x0.getD x5.toNat ((0 : Int), ((0 : Int), []))).2).1) (((x0.getD x5.toNat ((0 : Int), ((0 : Int), []))).2).2) x1), (), (), (), IntKind.wrap .i64 (x5 + (1 : Int)), (), (), (), (), (), (), (), (), (), (), (), (), (), (), (), (), (), (), (), (), (), ()), ()))) .fail) .fail) (.done (.exit 0) E_lszRecS_0_1 (((), x1, (), (), (), (), (), (), (), (), (), (), (), (), (), (), (), (), (), (), (), (), (), (), (), (), (), ()), ())))
noncomputable abbrev V_lszRecS_0 := (List (Int × Int × List (Int × ByteArray × ByteArray))) × (Int) × (Int)
noncomputable abbrev A_lszRecS_0 := Nat × (Int) × (Int)
noncomputable def fl_lszRecS_0 : A_lszRecS_0 := (99, ((0 : Int) : Int), ((0 : Int) : Int))
noncomputable def ss_lszRecS_0 (x0 : List (Int × Int × List (Int × ByteArray × ByteArray))) (x1 : Int) (x5 : Int) : V_lszRecS_0 ⊕ A_lszRecS_0 := (cond (decide (x5 < ((x0.length : Nat) : Int))) (cond (decide (0 ≤ x5 ∧ x5 < ((x0.length : Nat) : Int))) (cond (q_lszRec ((x0.getD x5.toNat ((0 : Int), ((0 : Int), []))).1) (((x0.getD x5.toNat ((0 : Int), ((0 : Int), []))).2).1) (((x0.getD x5.toNat ((0 : Int), ((0 : Int), []))).2).2) x1) (cond (decide ((lszRec ((x0.getD x5.toNat ((0 : Int), ((0 : Int), []))).1) (((x0.getD x5.toNat ((0 : Int), ((0 : Int), []))).2).1) (((x0.getD x5.toNat ((0 : Int), ((0 : Int), []))).2).2) x1) < (0 : Int))) (.inr (0, (-1 : Int), ((0 : Int) : Int))) (.inl (x0, (lszRec ((x0.getD x5.toNat ((0 : Int), ((0 : Int), []))).1) (((x0.getD x5.toNat ((0 : Int), ((0 : Int), []))).2).1) (((x0.getD x5.toNat ((0 : Int), ((0 : Int), []))).2).2) x1), IntKind.wrap .i64 (x5 + (1 : Int))))) (.inr fl_lszRecS_0)) (.inr fl_lszRecS_0)) (.inr (1, ((0 : Int) : Int), x1)))
noncomputable def it_lszRecS_0 (x0 : List (Int × Int × List (Int × ByteArray × ByteArray))) (x1 : Int) (x5 : Int) : A_lszRecS_0 := itX (fun v : V_lszRecS_0 => ss_lszRecS_0 v.1 v.2.1 v.2.2) fl_lszRecS_0 (x0, x1, x5)
noncomputable def ct_lszRecS_0 (a : A_lszRecS_0) : CT := (.br (a.1 == 0) (.done .ret E_lszRecS_0_0 (((), (), (), (), a.2.1, (), (), (), (), (), (), (), (), (), (), (), (), (), (), (), (), (), (), (), (), (), (), ()), ())) (.br (a.1 == 1) (.done (.exit 0) E_lszRecS_0_1 (((), a.2.2, (), (), (), (), (), (), (), (), (), (), (), (), (), (), (), (), (), (), (), (), (), (), (), (), (), ()), ())) .fail))
noncomputable def T_lszRecS_0 (x0 : List (Int × Int × List (Int × ByteArray × ByteArray))) (x1 : Int) (x5 : Int) : CT := ct_lszRecS_0 (it_lszRecS_0 x0 x1 x5)
noncomputable abbrev sp_lszRecS_0 : S_lszRecS_0.den → RT S_lszRecS_0.den := fun d => st_lszRecS_0 d.1.1 d.1.2.1 d.1.2.2.2.2.2.1
noncomputable abbrev pk_lszRecS_0 (x0 : List (Int × Int × List (Int × ByteArray × ByteArray))) (x1 : Int) (x5 : Int) : S_lszRecS_0.den := ((x0, x1, (), (), (), x5, (), (), (), (), (), (), (), (), (), (), (), (), (), (), (), (), (), (), (), (), (), ()), ())
noncomputable def body_lszRecS_0 : Code := ((loopsIn 0 (bodyOf Try.f94)).getD 0 (0, .skip)).2
theorem R_lszRecS_0 (x0 : List (Int × Int × List (Int × ByteArray × ByteArray))) (x1 : Int) (x5 : Int) : (T_lszRecS_0 x0 x1 x5).val (D := S_lszRecS_0.den) = .fail ∨ Runs sp_lszRecS_0 (pk_lszRecS_0 x0 x1 x5) (T_lszRecS_0 x0 x1 x5).val := Runs.ofIt (step := sp_lszRecS_0) (fun v : V_lszRecS_0 => pk_lszRecS_0 v.1 v.2.1 v.2.2) (ct := ct_lszRecS_0) rfl (fun v => ((relB (relB (relB (relB rfl rfl) rfl) rfl) rfl) : (st_lszRecS_0 v.1 v.2.1 v.2.2).val = relS (fun v : V_lszRecS_0 => pk_lszRecS_0 v.1 v.2.1 v.2.2) ct_lszRecS_0 (ss_lszRecS_0 v.1 v.2.1 v.2.2))) (fun a => ((cendB (cendD (by simp)) (cendB (cendD (by simp)) cendF)) : CEnd _ (ct_lszRecS_0 a))) (x0, x1, x5)
theorem rd_lszRecS_0 : ∀ d, execC Try.prog tt S8 QF8 (fun _ _ => none) 0 body_lszRecS_0 (S_lszRecS_0.st d 0 []) (fun e s' => some (e, S_lszRecS_0.cutE (kepts [4] [(0, [1])]) e s')) = (sp_lszRecS_0 d).opt 0 [] := by
  intro d
  kernel_rfl
noncomputable abbrev say_lszRecS_0 : St → Option Tree := S_lszRecS_0.say 0 [] [] (fun d => T_lszRecS_0 d.1.1 d.1.2.1 d.1.2.2.2.2.2.1)
theorem lw_lszRecS_0 : LoopWp Try.prog say_lszRecS_0 body_lszRecS_0 := SS.wp G8 (fun _ _ => none) (by rw [show loopsIn 0 body_lszRecS_0 = [] by kernel_rfl]; simp) S_lszRecS_0 0 [] (kepts [4] [(0, [1])]) [] sp_lszRecS_0 rd_lszRecS_0 _ (fun d => R_lszRecS_0 d.1.1 d.1.2.1 d.1.2.2.2.2.2.1)
noncomputable def lszRecS (a0 : List (Int × Int × List (Int × ByteArray × ByteArray))) (a1 : Int) : Int := (cond (decide ((IntKind.wrap .i64 (a1 - ((a0.length : Nat) : Int))) < (0 : Int))) (-1 : Int) (cond ((it_lszRecS_0 a0 (IntKind.wrap .i64 (a1 - ((a0.length : Nat) : Int))) (0 : Int)).1 == 0) ((it_lszRecS_0 a0 (IntKind.wrap .i64 (a1 - ((a0.length : Nat) : Int))) (0 : Int)).2.1) ((it_lszRecS_0 a0 (IntKind.wrap .i64 (a1 - ((a0.length : Nat) : Int))) (0 : Int)).2.2)))
noncomputable abbrev e_lszRecS (r : Int) : AV × List AObj := ((.t true (.int .i64) r), [])
noncomputable abbrev g_lszRecS : pshsDen P_lszRecS → AV × List AObj := fun d => e_lszRecS (lszRecS d.1 d.2.1)
noncomputable def q_lszRecS (a0 : List (Int × Int × List (Int × ByteArray × ByteArray))) (a1 : Int) : Bool := cond (decide ((IntKind.wrap .i64 (a1 - ((a0.length : Nat) : Int))) < (0 : Int))) true (cond ((it_lszRecS_0 a0 (IntKind.wrap .i64 (a1 - ((a0.length : Nat) : Int))) (0 : Int)).1 == 0) true ((it_lszRecS_0 a0 (IntKind.wrap .i64 (a1 - ((a0.length : Nat) : Int))) (0 : Int)).1 == 1))
noncomputable abbrev pre_lszRecS : pshsDen P_lszRecS → Bool := fun d => q_lszRecS d.1 d.2.1
theorem runA_lszRecS (a0 : List (Int × Int × List (Int × ByteArray × ByteArray))) (a1 : Int) (hp : (cond (decide ((IntKind.wrap .i64 (a1 - ((a0.length : Nat) : Int))) < (0 : Int))) true (cond ((it_lszRecS_0 a0 (IntKind.wrap .i64 (a1 - ((a0.length : Nat) : Int))) (0 : Int)).1 == 0) true ((it_lszRecS_0 a0 (IntKind.wrap .i64 (a1 - ((a0.length : Nat) : Int))) (0 : Int)).1 == 1))) = true) : runP true Try.prog tt S8 QF8 (fun b => match b with | 0 => say_lszRecS_0 | _ => fun _ => none) Try.f94 (argsMk P_lszRecS (a0, (a1, ()))) = some (g_lszRecS (a0, (a1, ()))) := by
  refine Eq.trans (b := (cond (decide ((IntKind.wrap .i64 (a1 - ((a0.length : Nat) : Int))) < (0 : Int))) (some (e_lszRecS (-1 : Int))) (cond ((it_lszRecS_0 a0 (IntKind.wrap .i64 (a1 - ((a0.length : Nat) : Int))) (0 : Int)).1 == 0) (some (e_lszRecS ((it_lszRecS_0 a0 (IntKind.wrap .i64 (a1 - ((a0.length : Nat) : Int))) (0 : Int)).2.1))) (cond ((it_lszRecS_0 a0 (IntKind.wrap .i64 (a1 - ((a0.length : Nat) : Int))) (0 : Int)).1 == 1) (some (e_lszRecS ((it_lszRecS_0 a0 (IntKind.wrap .i64 (a1 - ((a0.length : Nat) : Int))) (0 : Int)).2.2))) none)))) (by kernel_rfl) ?_
  exact (cndQ (F := fun r => some (e_lszRecS r)) hp (fun hp => rfl) (fun hp => (cndQ (F := fun r => some (e_lszRecS r)) hp (fun hp => rfl) (fun hp => (cndT hp (fun _h => rfl))))))
theorem run_lszRecS : ∀ d, pre_lszRecS d = true → runP true Try.prog tt S8 QF8 (fun b => match b with | 0 => say_lszRecS_0 | _ => fun _ => none) Try.f94 (argsMk P_lszRecS d) = some (g_lszRecS d) := fun d hp => runA_lszRecS d.1 d.2.1 hp
theorem c_lszRecS : PContract Try.prog 94 (sumOf P_lszRecS pre_lszRecS g_lszRecS) := PContract.of_data true G8 (fn := Try.f94) (by kernel_rfl) (L := fun b => match b with | 0 => say_lszRecS_0 | _ => fun _ => none) (by rw [show loopsIn 0 (bodyOf Try.f94) = [(0, body_lszRecS_0)] by kernel_rfl]; intro p hp; simp only [List.mem_singleton] at hp; subst hp; exact lw_lszRecS_0) P_lszRecS pre_lszRecS g_lszRecS run_lszRecS
noncomputable def S9 : Tab := Tab.add S8 94 (lift (sumOf P_lszRecS pre_lszRecS g_lszRecS))
noncomputable def QF9 : FuncId → Bool := qadd QF8 94
theorem G9 : Good Try.prog tt S9 QF9 := G8.addQ c_lszRecS ⟨Try.f94, by kernel_rfl, by kernel_rfl, by kernel_rfl⟩ (fun _ => rfl)

/-! 110 loop.example/g00244/laws.szPair -/
noncomputable abbrev P_lszPair : List PSh := [.agg [.str, .str], .t (.int .i64)]
noncomputable def lszPair (a0 : ByteArray) (a1 : ByteArray) (a2 : Int) : Int := (cond (decide ((IntKind.wrap .i64 (a2 - ((a0.size : Nat) : Int))) < (0 : Int))) (-1 : Int) (cond (decide ((IntKind.wrap .i64 ((IntKind.wrap .i64 (a2 - ((a0.size : Nat) : Int))) - ((a1.size : Nat) : Int))) < (0 : Int))) (-1 : Int) (IntKind.wrap .i64 ((IntKind.wrap .i64 (a2 - ((a0.size : Nat) : Int))) - ((a1.size : Nat) : Int)))))
noncomputable abbrev e_lszPair (r : Int) : AV × List AObj := ((.t true (.int .i64) r), [])
noncomputable abbrev g_lszPair : pshsDen P_lszPair → AV × List AObj := fun d => e_lszPair (lszPair d.1.1 d.1.2.1 d.2.1)
noncomputable abbrev pre_lszPair : pshsDen P_lszPair → Bool := fun d => true
theorem runA_lszPair (a0 : ByteArray) (a1 : ByteArray) (a2 : Int) : runP true Try.prog tt S9 QF9 (fun _ _ => none) Try.f110 (argsMk P_lszPair ((a0, (a1, ())), (a2, ()))) = some (g_lszPair ((a0, (a1, ())), (a2, ()))) := by
  refine Eq.trans (b := (cond (decide ((IntKind.wrap .i64 (a2 - ((a0.size : Nat) : Int))) < (0 : Int))) (some (e_lszPair (-1 : Int))) (cond (decide ((IntKind.wrap .i64 ((IntKind.wrap .i64 (a2 - ((a0.size : Nat) : Int))) - ((a1.size : Nat) : Int))) < (0 : Int))) (some (e_lszPair (-1 : Int))) (some (e_lszPair (IntKind.wrap .i64 ((IntKind.wrap .i64 (a2 - ((a0.size : Nat) : Int))) - ((a1.size : Nat) : Int)))))))) (by kernel_rfl) ?_
  exact (cnd (F := fun r => some (e_lszPair r)) (fun _h => rfl) (fun _h => (cnd (F := fun r => some (e_lszPair r)) (fun _h => rfl) (fun _h => rfl))))
theorem run_lszPair : ∀ d, pre_lszPair d = true → runP true Try.prog tt S9 QF9 (fun _ _ => none) Try.f110 (argsMk P_lszPair d) = some (g_lszPair d) := fun d hp => runA_lszPair d.1.1 d.1.2.1 d.2.1
theorem c_lszPair : PContract Try.prog 110 (sumOf P_lszPair pre_lszPair g_lszPair) := PContract.of_data true G9 (fn := Try.f110) (by kernel_rfl) (L := fun _ _ => none) (by rw [show loopsIn 0 (bodyOf Try.f110) = [] by kernel_rfl]; simp) P_lszPair pre_lszPair g_lszPair run_lszPair
noncomputable def S10 : Tab := Tab.add S9 110 (lift (sumOf P_lszPair pre_lszPair g_lszPair))
noncomputable def QF10 : FuncId → Bool := qadd QF9 110
theorem G10 : Good Try.prog tt S10 QF10 := G9.addQ c_lszPair ⟨Try.f110, by kernel_rfl, by kernel_rfl, by kernel_rfl⟩ (fun _ => rfl)

/-! 95 loop.example/g00244/laws.szPairS -/
noncomputable def f_lszPairS_0 (x0 : List (ByteArray × ByteArray)) (i : Nat) (b : Int) : Int := (lszPair ((x0.getD i ((⟨#[]⟩ : ByteArray), (⟨#[]⟩ : ByteArray))).1) ((x0.getD i ((⟨#[]⟩ : ByteArray), (⟨#[]⟩ : ByteArray))).2) b)
noncomputable abbrev P_lszPairS : List PSh := [.t (.sl (.pair .str .str)), .t (.int .i64)]
noncomputable abbrev S_lszPairS_0 : SS := ⟨[.t false (.sl (.pair .str .str)), .t true (.int .i64), .junk, .junk, .junk, .t true (.int .i64), .junk, .junk, .junk, .junk, .junk, .junk, .junk, .junk, .junk, .junk, .junk, .junk, .junk, .junk, .junk, .junk, .junk, .junk, .junk, .junk, .junk], []⟩
noncomputable abbrev E_lszPairS_0_0 : SS := ⟨[.junk, .junk, .junk, .junk, .t true (.int .i64), .junk, .junk, .junk, .junk, .junk, .junk, .junk, .junk, .junk, .junk, .junk, .junk, .junk, .junk, .junk, .junk, .junk, .junk, .junk, .junk, .junk, .junk], []⟩
noncomputable abbrev E_lszPairS_0_1 : SS := ⟨[.junk, .t true (.int .i64), .junk, .junk, .junk, .junk, .junk, .junk, .junk, .junk, .junk, .junk, .junk, .junk, .junk, .junk, .junk, .junk, .junk, .junk, .junk, .junk, .junk, .junk, .junk, .junk, .junk], []⟩
noncomputable def st_lszPairS_0 (x0 : List (ByteArray × ByteArray)) (x1 : Int) (x5 : Int) : RT S_lszPairS_0.den := (.br (decide (x5 < ((x0.length : Nat) : Int))) (.br (decide (0 ≤ x5 ∧ x5 < ((x0.length : Nat) : Int))) (.br (decide ((lszPair ((x0.getD x5.toNat ((⟨#[]⟩ : ByteArray), (⟨#[]⟩ : ByteArray))).1) ((x0.getD x5.toNat ((⟨#[]⟩ : ByteArray), (⟨#[]⟩ : ByteArray))).2) x1) < (0 : Int))) (.done .ret E_lszPairS_0_0 (((), (), (), (), (-1 : Int), (), (), (), (), (), (), (), (), (), (), (), (), (), (), (), (), (), (), (), (), (), (), ()), ())) (.next ((x0, (lszPair ((x0.getD x5.toNat ((⟨#[]⟩ : ByteArray), (⟨#[]⟩ : ByteArray))).1) ((x0.getD x5.toNat ((⟨#[]⟩ : ByteArray), (⟨#[]⟩ : ByteArray))).2) x1), (), (), (), IntKind.wrap .i64 (x5 + (1 : Int)), (), (), (), (), (), (), (), (), (), (), (), (), (), (), (), (), (), (), (), (), (), ()), ()))) .fail) (.done (.exit 0) E_lszPairS_0_1 (((), x1, (), (), (), (), (), (), (), (), (), (), (), (), (), (), (), (), (), (), (), (), (), (), (), (), (), ()), ())))
noncomputable def T_lszPairS_0 (x0 : List (ByteArray × ByteArray)) (x1 : Int) (x5 : Int) : CT := (.br (decide (0 ≤ x5) && okL x0) (.br (isInl (szN (f_lszPairS_0 x0) (x0.length - x5.toNat) x5.toNat x1)) (.done (.exit 0) E_lszPairS_0_1 (((), (getInl (-1) (szN (f_lszPairS_0 x0) (x0.length - x5.toNat) x5.toNat x1)), (), (), (), (), (), (), (), (), (), (), (), (), (), (), (), (), (), (), (), (), (), (), (), (), (), ()), ())) (.done .ret E_lszPairS_0_0 (((), (), (), (), (-1 : Int), (), (), (), (), (), (), (), (), (), (), (), (), (), (), (), (), (), (), (), (), (), (), ()), ()))) .fail)
noncomputable abbrev sp_lszPairS_0 : S_lszPairS_0.den → RT S_lszPairS_0.den := fun d => st_lszPairS_0 d.1.1 d.1.2.1 d.1.2.2.2.2.2.1
noncomputable abbrev pk_lszPairS_0 (x0 : List (ByteArray × ByteArray)) (x1 : Int) (x5 : Int) : S_lszPairS_0.den := ((x0, x1, (), (), (), x5, (), (), (), (), (), (), (), (), (), (), (), (), (), (), (), (), (), (), (), (), (), ()), ())
noncomputable def body_lszPairS_0 : Code := ((loopsIn 0 (bodyOf Try.f95)).getD 0 (0, .skip)).2
theorem R_lszPairS_0 (x0 : List (ByteArray × ByteArray)) (x1 : Int) (x5 : Int) : (T_lszPairS_0 x0 x1 x5).val (D := S_lszPairS_0.den) = .fail ∨ Runs sp_lszPairS_0 (pk_lszPairS_0 x0 x1 x5) (T_lszPairS_0 x0 x1 x5).val := by
  cases hc : (decide (0 ≤ x5) && okL x0) with
  | false => left; simp only [T_lszPairS_0, CT.val, hc, cond_false]
  | true =>
    right
    simp only [T_lszPairS_0, CT.val, hc, cond_true]
    simp only [Bool.and_eq_true, decide_eq_true_eq] at hc
    obtain ⟨i, rfl⟩ := Int.eq_ofNat_of_zero_le hc.1
    have hs := okL_le hc.2
    simp only [Int.toNat_natCast]
    have h := Runs.loopN (step := sp_lszPairS_0) (fun j b => pk_lszPairS_0 x0 b (j : Int)) (fun _ _ => True) (x0.length) (fun i b => cond (decide (f_lszPairS_0 x0 i b < 0)) (.inr ()) (.inl (f_lszPairS_0 x0 i b)))
      (fin := fun b => ((.done (.exit 0) E_lszPairS_0_1 (((), b, (), (), (), (), (), (), (), (), (), (), (), (), (), (), (), (), (), (), (), (), (), (), (), (), (), ()), ())) : CT).val) (bad := fun _ => ((.done .ret E_lszPairS_0_0 (((), (), (), (), (-1 : Int), (), (), (), (), (), (), (), (), (), (), (), (), (), (), (), (), (), (), (), (), (), (), ()), ())) : CT).val)
      (fun i b hi _ => ?_) (fun i b hi _ => ?_) (x0.length - i) i x1 rfl trivial
    · simp only [szN]
      revert h
      cases loopN (fun i b => cond (decide (f_lszPairS_0 x0 i b < 0)) (.inr ()) (.inl (f_lszPairS_0 x0 i b))) (x0.length - i) i x1 with
      | inl b => exact id
      | inr c => exact id
    · 
      have h0a : decide ((i : Int) < ((x0.length : Nat) : Int)) = true := decide_eq_true (by omega)
      have h0b : decide (0 ≤ (i : Int) ∧ (i : Int) < ((x0.length : Nat) : Int)) = true := decide_eq_true (by omega)
      have e : (sp_lszPairS_0 (pk_lszPairS_0 x0 b (i : Int))).val = cond (decide (f_lszPairS_0 x0 i b < 0)) ((.done .ret E_lszPairS_0_0 (((), (), (), (), (-1 : Int), (), (), (), (), (), (), (), (), (), (), (), (), (), (), (), (), (), (), (), (), (), (), ()), ())) : CT).val (.next (pk_lszPairS_0 x0 (f_lszPairS_0 x0 i b) ((i + 1 : Nat) : Int))) := by
        simp only [sp_lszPairS_0, st_lszPairS_0, RT.val, h0a, h0b, cond_true, wrapS i (by omega), Int.toNat_natCast]
        rfl
      cases hr : decide (f_lszPairS_0 x0 i b < 0) with
      | true => exact .inr ⟨(), _, _, _, rfl, by rw [e, hr]; rfl, rfl, by simp⟩
      | false => exact .inl ⟨_, rfl, trivial, by rw [e, hr]; rfl⟩
    · have h1 : decide ((i : Int) < ((x0.length : Nat) : Int)) = false := decide_eq_false (by omega)
      exact ⟨by simp only [sp_lszPairS_0, st_lszPairS_0, RT.val, h1, cond_false]; rfl, _, _, _, rfl, by simp⟩
theorem rd_lszPairS_0 : ∀ d, execC Try.prog tt S10 QF10 (fun _ _ => none) 0 body_lszPairS_0 (S_lszPairS_0.st d 0 []) (fun e s' => some (e, S_lszPairS_0.cutE (kepts [4] [(0, [1])]) e s')) = (sp_lszPairS_0 d).opt 0 [] := by
  intro d
  kernel_rfl
noncomputable abbrev say_lszPairS_0 : St → Option Tree := S_lszPairS_0.say 0 [] [] (fun d => T_lszPairS_0 d.1.1 d.1.2.1 d.1.2.2.2.2.2.1)
theorem lw_lszPairS_0 : LoopWp Try.prog say_lszPairS_0 body_lszPairS_0 := SS.wp G10 (fun _ _ => none) (by rw [show loopsIn 0 body_lszPairS_0 = [] by kernel_rfl]; simp) S_lszPairS_0 0 [] (kepts [4] [(0, [1])]) [] sp_lszPairS_0 rd_lszPairS_0 _ (fun d => R_lszPairS_0 d.1.1 d.1.2.1 d.1.2.2.2.2.2.1)
noncomputable def lszPairS (a0 : List (ByteArray × ByteArray)) (a1 : Int) : Int := (cond (decide ((IntKind.wrap .i64 (a1 - ((a0.length : Nat) : Int))) < (0 : Int))) (-1 : Int) (cond (isInl (szN (f_lszPairS_0 a0) (a0.length - (0 : Int).toNat) (0 : Int).toNat (IntKind.wrap .i64 (a1 - ((a0.length : Nat) : Int))))) (getInl (-1) (szN (f_lszPairS_0 a0) (a0.length - (0 : Int).toNat) (0 : Int).toNat (IntKind.wrap .i64 (a1 - ((a0.length : Nat) : Int))))) (-1 : Int)))
noncomputable abbrev e_lszPairS (r : Int) : AV × List AObj := ((.t true (.int .i64) r), [])
noncomputable abbrev g_lszPairS : pshsDen P_lszPairS → AV × List AObj := fun d => e_lszPairS (lszPairS d.1 d.2.1)
noncomputable def q_lszPairS (a0 : List (ByteArray × ByteArray)) (a1 : Int) : Bool := decide (0 ≤ a1 ∧ a1 ≤ 1048576 ∧ a0.length ≤ 9223372036854775807)
noncomputable abbrev pre_lszPairS : pshsDen P_lszPairS → Bool := fun d => q_lszPairS d.1 d.2.1
theorem runA_lszPairS (a0 : List (ByteArray × ByteArray)) (a1 : Int) (hp : (decide (0 ≤ a1 ∧ a1 ≤ 1048576 ∧ a0.length ≤ 9223372036854775807)) = true) : runP true Try.prog tt S10 QF10 (fun b => match b with | 0 => say_lszPairS_0 | _ => fun _ => none) Try.f95 (argsMk P_lszPairS (a0, (a1, ()))) = some (g_lszPairS (a0, (a1, ()))) := by
  refine Eq.trans (b := (cond (decide ((IntKind.wrap .i64 (a1 - ((a0.length : Nat) : Int))) < (0 : Int))) (some (e_lszPairS (-1 : Int))) (cond (decide (0 ≤ (0 : Int)) && okL a0) (cond (isInl (szN (f_lszPairS_0 a0) (a0.length - (0 : Int).toNat) (0 : Int).toNat (IntKind.wrap .i64 (a1 - ((a0.length : Nat) : Int))))) (some (e_lszPairS (getInl (-1) (szN (f_lszPairS_0 a0) (a0.length - (0 : Int).toNat) (0 : Int).toNat (IntKind.wrap .i64 (a1 - ((a0.length : Nat) : Int))))))) (some (e_lszPairS (-1 : Int)))) none))) (by kernel_rfl) ?_
  exact (cnd (F := fun r => some (e_lszPairS r)) (fun _h => rfl) (fun _h => (cndT (by simp only [decide_eq_true_eq, decide_eq_false_iff_not] at hp _h; have hw := wrap64 (n := a1 - ((a0.length : Nat) : Int)) (by omega) (by omega); rw [hw] at _h; simp [okL]; omega) (fun _h => (cnd (F := fun r => some (e_lszPairS r)) (fun _h => rfl) (fun _h => rfl))))))
theorem run_lszPairS : ∀ d, pre_lszPairS d = true → runP true Try.prog tt S10 QF10 (fun b => match b with | 0 => say_lszPairS_0 | _ => fun _ => none) Try.f95 (argsMk P_lszPairS d) = some (g_lszPairS d) := fun d hp => runA_lszPairS d.1 d.2.1 hp
theorem c_lszPairS : PContract Try.prog 95 (sumOf P_lszPairS pre_lszPairS g_lszPairS) := PContract.of_data true G10 (fn := Try.f95) (by kernel_rfl) (L := fun b => match b with | 0 => say_lszPairS_0 | _ => fun _ => none) (by rw [show loopsIn 0 (bodyOf Try.f95) = [(0, body_lszPairS_0)] by kernel_rfl]; intro p hp; simp only [List.mem_singleton] at hp; subst hp; exact lw_lszPairS_0) P_lszPairS pre_lszPairS g_lszPairS run_lszPairS
noncomputable def S11 : Tab := Tab.add S10 95 (lift (sumOf P_lszPairS pre_lszPairS g_lszPairS))
noncomputable def QF11 : FuncId → Bool := qadd QF10 95
theorem G11 : Good Try.prog tt S11 QF11 := G10.addQ c_lszPairS ⟨Try.f95, by kernel_rfl, by kernel_rfl, by kernel_rfl⟩ (fun _ => rfl)

/-! 73 loop.example/g00244/laws.szShard -/
noncomputable abbrev P_lszShard : List PSh := [.agg [(.int .i64), (.sl (.pair (.int .i64) (.pair (.int .i64) (.sl (.pair (.int .i64) (.pair .str .str)))))), (.int .i64), (.sl (.pair .str .str)), (.sl (.pair (.int .i64) (.pair (.int .i64) (.sl (.pair (.int .i64) (.pair .str .str))))))], .t (.int .i64)]
noncomputable def lszShard (a0 : Int) (a1 : List (Int × Int × List (Int × ByteArray × ByteArray))) (a2 : Int) (a3 : List (ByteArray × ByteArray)) (a4 : List (Int × Int × List (Int × ByteArray × ByteArray))) (a5 : Int) : Int := (cond (decide ((lszRecS a1 a5) < (0 : Int))) (-1 : Int) (cond (decide ((lszPairS a3 (lszRecS a1 a5)) < (0 : Int))) (-1 : Int) (cond (decide ((lszRecS a4 (lszPairS a3 (lszRecS a1 a5))) < (0 : Int))) (-1 : Int) (lszRecS a4 (lszPairS a3 (lszRecS a1 a5))))))
noncomputable abbrev e_lszShard (r : Int) : AV × List AObj := ((.t true (.int .i64) r), [])
noncomputable abbrev g_lszShard : pshsDen P_lszShard → AV × List AObj := fun d => e_lszShard (lszShard d.1.1 d.1.2.1 d.1.2.2.1 d.1.2.2.2.1 d.1.2.2.2.2.1 d.2.1)
noncomputable def q_lszShard (a0 : Int) (a1 : List (Int × Int × List (Int × ByteArray × ByteArray))) (a2 : Int) (a3 : List (ByteArray × ByteArray)) (a4 : List (Int × Int × List (Int × ByteArray × ByteArray))) (a5 : Int) : Bool := (q_lszRecS a1 a5) && (cond (decide ((lszRecS a1 a5) < (0 : Int))) true ((q_lszPairS a3 (lszRecS a1 a5)) && (cond (decide ((lszPairS a3 (lszRecS a1 a5)) < (0 : Int))) true (q_lszRecS a4 (lszPairS a3 (lszRecS a1 a5))))))
noncomputable abbrev pre_lszShard : pshsDen P_lszShard → Bool := fun d => q_lszShard d.1.1 d.1.2.1 d.1.2.2.1 d.1.2.2.2.1 d.1.2.2.2.2.1 d.2.1
theorem runA_lszShard (a0 : Int) (a1 : List (Int × Int × List (Int × ByteArray × ByteArray))) (a2 : Int) (a3 : List (ByteArray × ByteArray)) (a4 : List (Int × Int × List (Int × ByteArray × ByteArray))) (a5 : Int) (hp : ((q_lszRecS a1 a5) && (cond (decide ((lszRecS a1 a5) < (0 : Int))) true ((q_lszPairS a3 (lszRecS a1 a5)) && (cond (decide ((lszPairS a3 (lszRecS a1 a5)) < (0 : Int))) true (q_lszRecS a4 (lszPairS a3 (lszRecS a1 a5))))))) = true) : runP true Try.prog tt S11 QF11 (fun _ _ => none) Try.f73 (argsMk P_lszShard ((a0, (a1, (a2, (a3, (a4, ()))))), (a5, ()))) = some (g_lszShard ((a0, (a1, (a2, (a3, (a4, ()))))), (a5, ()))) := by
  refine Eq.trans (b := (cond (q_lszRecS a1 a5) (cond (decide ((lszRecS a1 a5) < (0 : Int))) (some (e_lszShard (-1 : Int))) (cond (q_lszPairS a3 (lszRecS a1 a5)) (cond (decide ((lszPairS a3 (lszRecS a1 a5)) < (0 : Int))) (some (e_lszShard (-1 : Int))) (cond (q_lszRecS a4 (lszPairS a3 (lszRecS a1 a5))) (cond (decide ((lszRecS a4 (lszPairS a3 (lszRecS a1 a5))) < (0 : Int))) (some (e_lszShard (-1 : Int))) (some (e_lszShard (lszRecS a4 (lszPairS a3 (lszRecS a1 a5)))))) none)) none)) none)) (by kernel_rfl) ?_
  exact (cndT (andL hp) (fun _h => (fun hp => (cndQ (F := fun r => some (e_lszShard r)) hp (fun hp => rfl) (fun hp => (cndT (andL hp) (fun _h => (fun hp => (cndQ (F := fun r => some (e_lszShard r)) hp (fun hp => rfl) (fun hp => (cndT hp (fun _h => (cnd (F := fun r => some (e_lszShard r)) (fun _h => rfl) (fun _h => rfl))))))) (andR hp)))))) (andR hp)))
theorem run_lszShard : ∀ d, pre_lszShard d = true → runP true Try.prog tt S11 QF11 (fun _ _ => none) Try.f73 (argsMk P_lszShard d) = some (g_lszShard d) := fun d hp => runA_lszShard d.1.1 d.1.2.1 d.1.2.2.1 d.1.2.2.2.1 d.1.2.2.2.2.1 d.2.1 hp
theorem c_lszShard : PContract Try.prog 73 (sumOf P_lszShard pre_lszShard g_lszShard) := PContract.of_data true G11 (fn := Try.f73) (by kernel_rfl) (L := fun _ _ => none) (by rw [show loopsIn 0 (bodyOf Try.f73) = [] by kernel_rfl]; simp) P_lszShard pre_lszShard g_lszShard run_lszShard
noncomputable def S12 : Tab := Tab.add S11 73 (lift (sumOf P_lszShard pre_lszShard g_lszShard))
noncomputable def QF12 : FuncId → Bool := qadd QF11 73
theorem G12 : Good Try.prog tt S12 QF12 := G11.addQ c_lszShard ⟨Try.f73, by kernel_rfl, by kernel_rfl, by kernel_rfl⟩ (fun _ => rfl)

/-! 39 loop.example/g00244/laws.szShardS -/
noncomputable abbrev P_lszShardS : List PSh := [.t (.sl (.pair (.int .i64) (.pair (.sl (.pair (.int .i64) (.pair (.int .i64) (.sl (.pair (.int .i64) (.pair .str .str)))))) (.pair (.int .i64) (.pair (.sl (.pair .str .str)) (.sl (.pair (.int .i64) (.pair (.int .i64) (.sl (.pair (.int .i64) (.pair .str .str))))))))))), .t (.int .i64)]
noncomputable abbrev S_lszShardS_0 : SS := ⟨[.t false (.sl (.pair (.int .i64) (.pair (.sl (.pair (.int .i64) (.pair (.int .i64) (.sl (.pair (.int .i64) (.pair .str .str)))))) (.pair (.int .i64) (.pair (.sl (.pair .str .str)) (.sl (.pair (.int .i64) (.pair (.int .i64) (.sl (.pair (.int .i64) (.pair .str .str))))))))))), .t true (.int .i64), .junk, .junk, .junk, .t true (.int .i64), .junk, .junk, .junk, .junk, .junk, .junk, .junk, .junk, .junk, .junk, .junk, .junk, .junk, .junk, .junk, .junk, .junk, .junk, .junk, .junk, .junk], []⟩
noncomputable abbrev E_lszShardS_0_0 : SS := ⟨[.junk, .junk, .junk, .junk, .t true (.int .i64), .junk, .junk, .junk, .junk, .junk, .junk, .junk, .junk, .junk, .junk, .junk, .junk, .junk, .junk, .junk, .junk, .junk, .junk, .junk, .junk, .junk, .junk], []⟩
noncomputable abbrev E_lszShardS_0_1 : SS := ⟨[.junk, .t true (.int .i64), .junk, .junk, .junk, .junk, .junk, .junk, .junk, .junk, .junk, .junk, .junk, .junk, .junk, .junk, .junk, .junk, .junk, .junk, .junk, .junk, .junk, .junk, .junk, .junk, .junk], []⟩
noncomputable def st_lszShardS_0 (x0 : List (Int × (List (Int × Int × List (Int × ByteArray × ByteArray))) × Int × (List (ByteArray × ByteArray)) × List (Int × Int × List (Int × ByteArray × ByteArray)))) (x1 : Int) (x5 : Int) : RT S_lszShardS_0.den := (.br (decide (x5 < ((x0.length : Nat) : Int))) (.br (decide (0 ≤ x5 ∧ x5 < ((x0.length : Nat) : Int))) (.br (q_lszShard ((x0.getD x5.toNat ((0 : Int), ([], ((0 : Int), ([], []))))).1) (((x0.getD x5.toNat ((0 : Int), ([], ((0 : Int), ([], []))))).2).1) ((((x0.getD x5.toNat ((0 : Int), ([], ((0 : Int), ([], []))))).2).2).1) (((((x0.getD x5.toNat ((0 : Int), ([], ((0 : Int), ([], []))))).2).2).2).1) (((((x0.getD x5.toNat ((0 : Int), ([], ((0 : Int), ([], []))))).2).2).2).2) x1) (.br (decide ((lszShard ((x0.getD x5.toNat ((0 : Int), ([], ((0 : Int), ([], []))))).1) (((x0.getD x5.toNat ((0 : Int), ([], ((0 : Int), ([], []))))).2).1) ((((x0.getD x5.toNat ((0 : Int), ([], ((0 : Int), ([], []))))).2).2).1) (((((x0.getD x5.toNat ((0 : Int), ([], ((0 : Int), ([], []))))).2).2).2).1) (((((x0.getD x5.toNat ((0 : Int), ([], ((0 : Int), ([], []))))).2).2).2).2) x1) < (0 : Int))) (.done .ret E_lszShardS_0_0 (((), (), (), (), (-1 : Int), (), (), (), (), (), (), (), (), (), (), (), (), (), (), (), (), (), (), (), (), (), (), ()), ())) (.next ((x0, (lszShard ((x0.getD x5.toNat ((0 : Int), ([], ((0 : Int), ([], []))))).1) (((x0.getD x5.toNat ((0 : Int), ([], ((0 : Int), ([], []))))).2).1) ((((x0.getD x5.toNat ((0 : Int), ([], ((0 : Int), ([], []))))).2).2).1) (((((x0.getD x5.toNat ((0 : Int), ([], ((0 : Int), ([], []))))).2).2).2).1) (((((x0.getD x5.toNat ((0 : Int), ([], ((0 : Int), ([], []))))).2).2).2).2) x1), (), (), (), IntKind.wrap .i64 (x5 + (1 : Int)), (), (), (), (), (), (), (), (), (), (), (), (), (), (), (), (), (), (), (), (), (), ()), ()))) .fail) .fail) (.done (.exit 0) E_lszShardS_0_1 (((), x1, (), (), (), (), (), (), (), (), (), (), (), (), (), (), (), (), (), (), (), (), (), (), (), (), (), ()), ())))
noncomputable abbrev V_lszShardS_0 := (List (Int × (List (Int × Int × List (Int × ByteArray × ByteArray))) × Int × (List (ByteArray × ByteArray)) × List (Int × Int × List (Int × ByteArray × ByteArray)))) × (Int) × (Int)
noncomputable abbrev A_lszShardS_0 := Nat × (Int) × (Int)
noncomputable def fl_lszShardS_0 : A_lszShardS_0 := (99, ((0 : Int) : Int), ((0 : Int) : Int))
noncomputable def ss_lszShardS_0 (x0 : List (Int × (List (Int × Int × List (Int × ByteArray × ByteArray))) × Int × (List (ByteArray × ByteArray)) × List (Int × Int × List (Int × ByteArray × ByteArray)))) (x1 : Int) (x5 : Int) : V_lszShardS_0 ⊕ A_lszShardS_0 := (cond (decide (x5 < ((x0.length : Nat) : Int))) (cond (decide (0 ≤ x5 ∧ x5 < ((x0.length : Nat) : Int))) (cond (q_lszShard ((x0.getD x5.toNat ((0 : Int), ([], ((0 : Int), ([], []))))).1) (((x0.getD x5.toNat ((0 : Int), ([], ((0 : Int), ([], []))))).2).1) ((((x0.getD x5.toNat ((0 : Int), ([], ((0 : Int), ([], []))))).2).2).1) (((((x0.getD x5.toNat ((0 : Int), ([], ((0 : Int), ([], []))))).2).2).2).1) (((((x0.getD x5.toNat ((0 : Int), ([], ((0 : Int), ([], []))))).2).2).2).2) x1) (cond (decide ((lszShard ((x0.getD x5.toNat ((0 : Int), ([], ((0 : Int), ([], []))))).1) (((x0.getD x5.toNat ((0 : Int), ([], ((0 : Int), ([], []))))).2).1) ((((x0.getD x5.toNat ((0 : Int), ([], ((0 : Int), ([], []))))).2).2).1) (((((x0.getD x5.toNat ((0 : Int), ([], ((0 : Int), ([], []))))).2).2).2).1) (((((x0.getD x5.toNat ((0 : Int), ([], ((0 : Int), ([], []))))).2).2).2).2) x1) < (0 : Int))) (.inr (0, (-1 : Int), ((0 : Int) : Int))) (.inl (x0, (lszShard ((x0.getD x5.toNat ((0 : Int), ([], ((0 : Int), ([], []))))).1) (((x0.getD x5.toNat ((0 : Int), ([], ((0 : Int), ([], []))))).2).1) ((((x0.getD x5.toNat ((0 : Int), ([], ((0 : Int), ([], []))))).2).2).1) (((((x0.getD x5.toNat ((0 : Int), ([], ((0 : Int), ([], []))))).2).2).2).1) (((((x0.getD x5.toNat ((0 : Int), ([], ((0 : Int), ([], []))))).2).2).2).2) x1), IntKind.wrap .i64 (x5 + (1 : Int))))) (.inr fl_lszShardS_0)) (.inr fl_lszShardS_0)) (.inr (1, ((0 : Int) : Int), x1)))
noncomputable def it_lszShardS_0 (x0 : List (Int × (List (Int × Int × List (Int × ByteArray × ByteArray))) × Int × (List (ByteArray × ByteArray)) × List (Int × Int × List (Int × ByteArray × ByteArray)))) (x1 : Int) (x5 : Int) : A_lszShardS_0 := itX (fun v : V_lszShardS_0 => ss_lszShardS_0 v.1 v.2.1 v.2.2) fl_lszShardS_0 (x0, x1, x5)
noncomputable def ct_lszShardS_0 (a : A_lszShardS_0) : CT := (.br (a.1 == 0) (.done .ret E_lszShardS_0_0 (((), (), (), (), a.2.1, (), (), (), (), (), (), (), (), (), (), (), (), (), (), (), (), (), (), (), (), (), (), ()), ())) (.br (a.1 == 1) (.done (.exit 0) E_lszShardS_0_1 (((), a.2.2, (), (), (), (), (), (), (), (), (), (), (), (), (), (), (), (), (), (), (), (), (), (), (), (), (), ()), ())) .fail))
noncomputable def T_lszShardS_0 (x0 : List (Int × (List (Int × Int × List (Int × ByteArray × ByteArray))) × Int × (List (ByteArray × ByteArray)) × List (Int × Int × List (Int × ByteArray × ByteArray)))) (x1 : Int) (x5 : Int) : CT := ct_lszShardS_0 (it_lszShardS_0 x0 x1 x5)
noncomputable abbrev sp_lszShardS_0 : S_lszShardS_0.den → RT S_lszShardS_0.den := fun d => st_lszShardS_0 d.1.1 d.1.2.1 d.1.2.2.2.2.2.1
noncomputable abbrev pk_lszShardS_0 (x0 : List (Int × (List (Int × Int × List (Int × ByteArray × ByteArray))) × Int × (List (ByteArray × ByteArray)) × List (Int × Int × List (Int × ByteArray × ByteArray)))) (x1 : Int) (x5 : Int) : S_lszShardS_0.den := ((x0, x1, (), (), (), x5, (), (), (), (), (), (), (), (), (), (), (), (), (), (), (), (), (), (), (), (), (), ()), ())
noncomputable def body_lszShardS_0 : Code := ((loopsIn 0 (bodyOf Try.f39)).getD 0 (0, .skip)).2
theorem R_lszShardS_0 (x0 : List (Int × (List (Int × Int × List (Int × ByteArray × ByteArray))) × Int × (List (ByteArray × ByteArray)) × List (Int × Int × List (Int × ByteArray × ByteArray)))) (x1 : Int) (x5 : Int) : (T_lszShardS_0 x0 x1 x5).val (D := S_lszShardS_0.den) = .fail ∨ Runs sp_lszShardS_0 (pk_lszShardS_0 x0 x1 x5) (T_lszShardS_0 x0 x1 x5).val := Runs.ofIt (step := sp_lszShardS_0) (fun v : V_lszShardS_0 => pk_lszShardS_0 v.1 v.2.1 v.2.2) (ct := ct_lszShardS_0) rfl (fun v => ((relB (relB (relB (relB rfl rfl) rfl) rfl) rfl) : (st_lszShardS_0 v.1 v.2.1 v.2.2).val = relS (fun v : V_lszShardS_0 => pk_lszShardS_0 v.1 v.2.1 v.2.2) ct_lszShardS_0 (ss_lszShardS_0 v.1 v.2.1 v.2.2))) (fun a => ((cendB (cendD (by simp)) (cendB (cendD (by simp)) cendF)) : CEnd _ (ct_lszShardS_0 a))) (x0, x1, x5)
theorem rd_lszShardS_0 : ∀ d, execC Try.prog tt S12 QF12 (fun _ _ => none) 0 body_lszShardS_0 (S_lszShardS_0.st d 0 []) (fun e s' => some (e, S_lszShardS_0.cutE (kepts [4] [(0, [1])]) e s')) = (sp_lszShardS_0 d).opt 0 [] := by
  intro d
  kernel_rfl
noncomputable abbrev say_lszShardS_0 : St → Option Tree := S_lszShardS_0.say 0 [] [] (fun d => T_lszShardS_0 d.1.1 d.1.2.1 d.1.2.2.2.2.2.1)
theorem lw_lszShardS_0 : LoopWp Try.prog say_lszShardS_0 body_lszShardS_0 := SS.wp G12 (fun _ _ => none) (by rw [show loopsIn 0 body_lszShardS_0 = [] by kernel_rfl]; simp) S_lszShardS_0 0 [] (kepts [4] [(0, [1])]) [] sp_lszShardS_0 rd_lszShardS_0 _ (fun d => R_lszShardS_0 d.1.1 d.1.2.1 d.1.2.2.2.2.2.1)
noncomputable def lszShardS (a0 : List (Int × (List (Int × Int × List (Int × ByteArray × ByteArray))) × Int × (List (ByteArray × ByteArray)) × List (Int × Int × List (Int × ByteArray × ByteArray)))) (a1 : Int) : Int := (cond (decide ((IntKind.wrap .i64 (a1 - ((a0.length : Nat) : Int))) < (0 : Int))) (-1 : Int) (cond ((it_lszShardS_0 a0 (IntKind.wrap .i64 (a1 - ((a0.length : Nat) : Int))) (0 : Int)).1 == 0) ((it_lszShardS_0 a0 (IntKind.wrap .i64 (a1 - ((a0.length : Nat) : Int))) (0 : Int)).2.1) ((it_lszShardS_0 a0 (IntKind.wrap .i64 (a1 - ((a0.length : Nat) : Int))) (0 : Int)).2.2)))
noncomputable abbrev e_lszShardS (r : Int) : AV × List AObj := ((.t true (.int .i64) r), [])
noncomputable abbrev g_lszShardS : pshsDen P_lszShardS → AV × List AObj := fun d => e_lszShardS (lszShardS d.1 d.2.1)
noncomputable def q_lszShardS (a0 : List (Int × (List (Int × Int × List (Int × ByteArray × ByteArray))) × Int × (List (ByteArray × ByteArray)) × List (Int × Int × List (Int × ByteArray × ByteArray)))) (a1 : Int) : Bool := cond (decide ((IntKind.wrap .i64 (a1 - ((a0.length : Nat) : Int))) < (0 : Int))) true (cond ((it_lszShardS_0 a0 (IntKind.wrap .i64 (a1 - ((a0.length : Nat) : Int))) (0 : Int)).1 == 0) true ((it_lszShardS_0 a0 (IntKind.wrap .i64 (a1 - ((a0.length : Nat) : Int))) (0 : Int)).1 == 1))
noncomputable abbrev pre_lszShardS : pshsDen P_lszShardS → Bool := fun d => q_lszShardS d.1 d.2.1
theorem runA_lszShardS (a0 : List (Int × (List (Int × Int × List (Int × ByteArray × ByteArray))) × Int × (List (ByteArray × ByteArray)) × List (Int × Int × List (Int × ByteArray × ByteArray)))) (a1 : Int) (hp : (cond (decide ((IntKind.wrap .i64 (a1 - ((a0.length : Nat) : Int))) < (0 : Int))) true (cond ((it_lszShardS_0 a0 (IntKind.wrap .i64 (a1 - ((a0.length : Nat) : Int))) (0 : Int)).1 == 0) true ((it_lszShardS_0 a0 (IntKind.wrap .i64 (a1 - ((a0.length : Nat) : Int))) (0 : Int)).1 == 1))) = true) : runP true Try.prog tt S12 QF12 (fun b => match b with | 0 => say_lszShardS_0 | _ => fun _ => none) Try.f39 (argsMk P_lszShardS (a0, (a1, ()))) = some (g_lszShardS (a0, (a1, ()))) := by
  refine Eq.trans (b := (cond (decide ((IntKind.wrap .i64 (a1 - ((a0.length : Nat) : Int))) < (0 : Int))) (some (e_lszShardS (-1 : Int))) (cond ((it_lszShardS_0 a0 (IntKind.wrap .i64 (a1 - ((a0.length : Nat) : Int))) (0 : Int)).1 == 0) (some (e_lszShardS ((it_lszShardS_0 a0 (IntKind.wrap .i64 (a1 - ((a0.length : Nat) : Int))) (0 : Int)).2.1))) (cond ((it_lszShardS_0 a0 (IntKind.wrap .i64 (a1 - ((a0.length : Nat) : Int))) (0 : Int)).1 == 1) (some (e_lszShardS ((it_lszShardS_0 a0 (IntKind.wrap .i64 (a1 - ((a0.length : Nat) : Int))) (0 : Int)).2.2))) none)))) (by kernel_rfl) ?_
  exact (cndQ (F := fun r => some (e_lszShardS r)) hp (fun hp => rfl) (fun hp => (cndQ (F := fun r => some (e_lszShardS r)) hp (fun hp => rfl) (fun hp => (cndT hp (fun _h => rfl))))))
theorem run_lszShardS : ∀ d, pre_lszShardS d = true → runP true Try.prog tt S12 QF12 (fun b => match b with | 0 => say_lszShardS_0 | _ => fun _ => none) Try.f39 (argsMk P_lszShardS d) = some (g_lszShardS d) := fun d hp => runA_lszShardS d.1 d.2.1 hp
theorem c_lszShardS : PContract Try.prog 39 (sumOf P_lszShardS pre_lszShardS g_lszShardS) := PContract.of_data true G12 (fn := Try.f39) (by kernel_rfl) (L := fun b => match b with | 0 => say_lszShardS_0 | _ => fun _ => none) (by rw [show loopsIn 0 (bodyOf Try.f39) = [(0, body_lszShardS_0)] by kernel_rfl]; intro p hp; simp only [List.mem_singleton] at hp; subst hp; exact lw_lszShardS_0) P_lszShardS pre_lszShardS g_lszShardS run_lszShardS
noncomputable def S13 : Tab := Tab.add S12 39 (lift (sumOf P_lszShardS pre_lszShardS g_lszShardS))
noncomputable def QF13 : FuncId → Bool := qadd QF12 39
theorem G13 : Good Try.prog tt S13 QF13 := G12.addQ c_lszShardS ⟨Try.f39, by kernel_rfl, by kernel_rfl, by kernel_rfl⟩ (fun _ => rfl)

/-! 74 loop.example/g00244/laws.szWord -/
noncomputable abbrev P_lszWord : List PSh := [.agg [(.int .i64), (.int .i64), (.int .i64), (.sl (.pair (.int .i64) (.pair .str .str))), .bool], .t (.int .i64)]
noncomputable def lszWord (a0 : Int) (a1 : Int) (a2 : Int) (a3 : List (Int × ByteArray × ByteArray)) (a4 : Bool) (a5 : Int) : Int := (cond (decide ((lszOpS a3 a5) < (0 : Int))) (-1 : Int) (lszOpS a3 a5))
noncomputable abbrev e_lszWord (r : Int) : AV × List AObj := ((.t true (.int .i64) r), [])
noncomputable abbrev g_lszWord : pshsDen P_lszWord → AV × List AObj := fun d => e_lszWord (lszWord d.1.1 d.1.2.1 d.1.2.2.1 d.1.2.2.2.1 d.1.2.2.2.2.1 d.2.1)
noncomputable def q_lszWord (a0 : Int) (a1 : Int) (a2 : Int) (a3 : List (Int × ByteArray × ByteArray)) (a4 : Bool) (a5 : Int) : Bool := decide (0 ≤ a5 ∧ a5 ≤ 1048576 ∧ a3.length ≤ 9223372036854775807)
noncomputable abbrev pre_lszWord : pshsDen P_lszWord → Bool := fun d => q_lszWord d.1.1 d.1.2.1 d.1.2.2.1 d.1.2.2.2.1 d.1.2.2.2.2.1 d.2.1
theorem runA_lszWord (a0 : Int) (a1 : Int) (a2 : Int) (a3 : List (Int × ByteArray × ByteArray)) (a4 : Bool) (a5 : Int) (hp : (decide (0 ≤ a5 ∧ a5 ≤ 1048576 ∧ a3.length ≤ 9223372036854775807)) = true) : runP true Try.prog tt S13 QF13 (fun _ _ => none) Try.f74 (argsMk P_lszWord ((a0, (a1, (a2, (a3, (a4, ()))))), (a5, ()))) = some (g_lszWord ((a0, (a1, (a2, (a3, (a4, ()))))), (a5, ()))) := by
  refine Eq.trans (b := (cond (q_lszOpS a3 a5) (cond (decide ((lszOpS a3 a5) < (0 : Int))) (some (e_lszWord (-1 : Int))) (some (e_lszWord (lszOpS a3 a5)))) none)) (by kernel_rfl) ?_
  exact (cndT (by first | rfl | decide | exact hp | (simp only [Bool.and_eq_true] at hp; simp only [hp]; done) | (simp [*]; done) | (simp [okL] at hp; simp [okL, MAXB]; omega) | (simp_all; done) | (simp at *; omega)) (fun _h => (cnd (F := fun r => some (e_lszWord r)) (fun _h => rfl) (fun _h => rfl))))
theorem run_lszWord : ∀ d, pre_lszWord d = true → runP true Try.prog tt S13 QF13 (fun _ _ => none) Try.f74 (argsMk P_lszWord d) = some (g_lszWord d) := fun d hp => runA_lszWord d.1.1 d.1.2.1 d.1.2.2.1 d.1.2.2.2.1 d.1.2.2.2.2.1 d.2.1 hp
theorem c_lszWord : PContract Try.prog 74 (sumOf P_lszWord pre_lszWord g_lszWord) := PContract.of_data true G13 (fn := Try.f74) (by kernel_rfl) (L := fun _ _ => none) (by rw [show loopsIn 0 (bodyOf Try.f74) = [] by kernel_rfl]; simp) P_lszWord pre_lszWord g_lszWord run_lszWord
noncomputable def S14 : Tab := Tab.add S13 74 (lift (sumOf P_lszWord pre_lszWord g_lszWord))
noncomputable def QF14 : FuncId → Bool := qadd QF13 74
theorem G14 : Good Try.prog tt S14 QF14 := G13.addQ c_lszWord ⟨Try.f74, by kernel_rfl, by kernel_rfl, by kernel_rfl⟩ (fun _ => rfl)

/-! 40 loop.example/g00244/laws.szWordS -/
noncomputable abbrev P_lszWordS : List PSh := [.t (.sl (.pair (.int .i64) (.pair (.int .i64) (.pair (.int .i64) (.pair (.sl (.pair (.int .i64) (.pair .str .str))) .bool))))), .t (.int .i64)]
noncomputable abbrev S_lszWordS_0 : SS := ⟨[.t false (.sl (.pair (.int .i64) (.pair (.int .i64) (.pair (.int .i64) (.pair (.sl (.pair (.int .i64) (.pair .str .str))) .bool))))), .t true (.int .i64), .junk, .junk, .junk, .t true (.int .i64), .junk, .junk, .junk, .junk, .junk, .junk, .junk, .junk, .junk, .junk, .junk, .junk, .junk, .junk, .junk, .junk, .junk, .junk, .junk, .junk, .junk], []⟩
noncomputable abbrev E_lszWordS_0_0 : SS := ⟨[.junk, .junk, .junk, .junk, .t true (.int .i64), .junk, .junk, .junk, .junk, .junk, .junk, .junk, .junk, .junk, .junk, .junk, .junk, .junk, .junk, .junk, .junk, .junk, .junk, .junk, .junk, .junk, .junk], []⟩
noncomputable abbrev E_lszWordS_0_1 : SS := ⟨[.junk, .t true (.int .i64), .junk, .junk, .junk, .junk, .junk, .junk, .junk, .junk, .junk, .junk, .junk, .junk, .junk, .junk, .junk, .junk, .junk, .junk, .junk, .junk, .junk, .junk, .junk, .junk, .junk], []⟩
noncomputable def st_lszWordS_0 (x0 : List (Int × Int × Int × (List (Int × ByteArray × ByteArray)) × Bool)) (x1 : Int) (x5 : Int) : RT S_lszWordS_0.den := (.br (decide (x5 < ((x0.length : Nat) : Int))) (.br (decide (0 ≤ x5 ∧ x5 < ((x0.length : Nat) : Int))) (.br (q_lszWord ((x0.getD x5.toNat ((0 : Int), ((0 : Int), ((0 : Int), ([], false))))).1) (((x0.getD x5.toNat ((0 : Int), ((0 : Int), ((0 : Int), ([], false))))).2).1) ((((x0.getD x5.toNat ((0 : Int), ((0 : Int), ((0 : Int), ([], false))))).2).2).1) (((((x0.getD x5.toNat ((0 : Int), ((0 : Int), ((0 : Int), ([], false))))).2).2).2).1) (((((x0.getD x5.toNat ((0 : Int), ((0 : Int), ((0 : Int), ([], false))))).2).2).2).2) x1) (.br (decide ((lszWord ((x0.getD x5.toNat ((0 : Int), ((0 : Int), ((0 : Int), ([], false))))).1) (((x0.getD x5.toNat ((0 : Int), ((0 : Int), ((0 : Int), ([], false))))).2).1) ((((x0.getD x5.toNat ((0 : Int), ((0 : Int), ((0 : Int), ([], false))))).2).2).1) (((((x0.getD x5.toNat ((0 : Int), ((0 : Int), ((0 : Int), ([], false))))).2).2).2).1) (((((x0.getD x5.toNat ((0 : Int), ((0 : Int), ((0 : Int), ([], false))))).2).2).2).2) x1) < (0 : Int))) (.done .ret E_lszWordS_0_0 (((), (), (), (), (-1 : Int), (), (), (), (), (), (), (), (), (), (), (), (), (), (), (), (), (), (), (), (), (), (), ()), ())) (.next ((x0, (lszWord ((x0.getD x5.toNat ((0 : Int), ((0 : Int), ((0 : Int), ([], false))))).1) (((x0.getD x5.toNat ((0 : Int), ((0 : Int), ((0 : Int), ([], false))))).2).1) ((((x0.getD x5.toNat ((0 : Int), ((0 : Int), ((0 : Int), ([], false))))).2).2).1) (((((x0.getD x5.toNat ((0 : Int), ((0 : Int), ((0 : Int), ([], false))))).2).2).2).1) (((((x0.getD x5.toNat ((0 : Int), ((0 : Int), ((0 : Int), ([], false))))).2).2).2).2) x1), (), (), (), IntKind.wrap .i64 (x5 + (1 : Int)), (), (), (), (), (), (), (), (), (), (), (), (), (), (), (), (), (), (), (), (), (), ()), ()))) .fail) .fail) (.done (.exit 0) E_lszWordS_0_1 (((), x1, (), (), (), (), (), (), (), (), (), (), (), (), (), (), (), (), (), (), (), (), (), (), (), (), (), ()), ())))
noncomputable abbrev V_lszWordS_0 := (List (Int × Int × Int × (List (Int × ByteArray × ByteArray)) × Bool)) × (Int) × (Int)
noncomputable abbrev A_lszWordS_0 := Nat × (Int) × (Int)
noncomputable def fl_lszWordS_0 : A_lszWordS_0 := (99, ((0 : Int) : Int), ((0 : Int) : Int))
noncomputable def ss_lszWordS_0 (x0 : List (Int × Int × Int × (List (Int × ByteArray × ByteArray)) × Bool)) (x1 : Int) (x5 : Int) : V_lszWordS_0 ⊕ A_lszWordS_0 := (cond (decide (x5 < ((x0.length : Nat) : Int))) (cond (decide (0 ≤ x5 ∧ x5 < ((x0.length : Nat) : Int))) (cond (q_lszWord ((x0.getD x5.toNat ((0 : Int), ((0 : Int), ((0 : Int), ([], false))))).1) (((x0.getD x5.toNat ((0 : Int), ((0 : Int), ((0 : Int), ([], false))))).2).1) ((((x0.getD x5.toNat ((0 : Int), ((0 : Int), ((0 : Int), ([], false))))).2).2).1) (((((x0.getD x5.toNat ((0 : Int), ((0 : Int), ((0 : Int), ([], false))))).2).2).2).1) (((((x0.getD x5.toNat ((0 : Int), ((0 : Int), ((0 : Int), ([], false))))).2).2).2).2) x1) (cond (decide ((lszWord ((x0.getD x5.toNat ((0 : Int), ((0 : Int), ((0 : Int), ([], false))))).1) (((x0.getD x5.toNat ((0 : Int), ((0 : Int), ((0 : Int), ([], false))))).2).1) ((((x0.getD x5.toNat ((0 : Int), ((0 : Int), ((0 : Int), ([], false))))).2).2).1) (((((x0.getD x5.toNat ((0 : Int), ((0 : Int), ((0 : Int), ([], false))))).2).2).2).1) (((((x0.getD x5.toNat ((0 : Int), ((0 : Int), ((0 : Int), ([], false))))).2).2).2).2) x1) < (0 : Int))) (.inr (0, (-1 : Int), ((0 : Int) : Int))) (.inl (x0, (lszWord ((x0.getD x5.toNat ((0 : Int), ((0 : Int), ((0 : Int), ([], false))))).1) (((x0.getD x5.toNat ((0 : Int), ((0 : Int), ((0 : Int), ([], false))))).2).1) ((((x0.getD x5.toNat ((0 : Int), ((0 : Int), ((0 : Int), ([], false))))).2).2).1) (((((x0.getD x5.toNat ((0 : Int), ((0 : Int), ((0 : Int), ([], false))))).2).2).2).1) (((((x0.getD x5.toNat ((0 : Int), ((0 : Int), ((0 : Int), ([], false))))).2).2).2).2) x1), IntKind.wrap .i64 (x5 + (1 : Int))))) (.inr fl_lszWordS_0)) (.inr fl_lszWordS_0)) (.inr (1, ((0 : Int) : Int), x1)))
noncomputable def it_lszWordS_0 (x0 : List (Int × Int × Int × (List (Int × ByteArray × ByteArray)) × Bool)) (x1 : Int) (x5 : Int) : A_lszWordS_0 := itX (fun v : V_lszWordS_0 => ss_lszWordS_0 v.1 v.2.1 v.2.2) fl_lszWordS_0 (x0, x1, x5)
noncomputable def ct_lszWordS_0 (a : A_lszWordS_0) : CT := (.br (a.1 == 0) (.done .ret E_lszWordS_0_0 (((), (), (), (), a.2.1, (), (), (), (), (), (), (), (), (), (), (), (), (), (), (), (), (), (), (), (), (), (), ()), ())) (.br (a.1 == 1) (.done (.exit 0) E_lszWordS_0_1 (((), a.2.2, (), (), (), (), (), (), (), (), (), (), (), (), (), (), (), (), (), (), (), (), (), (), (), (), (), ()), ())) .fail))
noncomputable def T_lszWordS_0 (x0 : List (Int × Int × Int × (List (Int × ByteArray × ByteArray)) × Bool)) (x1 : Int) (x5 : Int) : CT := ct_lszWordS_0 (it_lszWordS_0 x0 x1 x5)
noncomputable abbrev sp_lszWordS_0 : S_lszWordS_0.den → RT S_lszWordS_0.den := fun d => st_lszWordS_0 d.1.1 d.1.2.1 d.1.2.2.2.2.2.1
noncomputable abbrev pk_lszWordS_0 (x0 : List (Int × Int × Int × (List (Int × ByteArray × ByteArray)) × Bool)) (x1 : Int) (x5 : Int) : S_lszWordS_0.den := ((x0, x1, (), (), (), x5, (), (), (), (), (), (), (), (), (), (), (), (), (), (), (), (), (), (), (), (), (), ()), ())
noncomputable def body_lszWordS_0 : Code := ((loopsIn 0 (bodyOf Try.f40)).getD 0 (0, .skip)).2
theorem R_lszWordS_0 (x0 : List (Int × Int × Int × (List (Int × ByteArray × ByteArray)) × Bool)) (x1 : Int) (x5 : Int) : (T_lszWordS_0 x0 x1 x5).val (D := S_lszWordS_0.den) = .fail ∨ Runs sp_lszWordS_0 (pk_lszWordS_0 x0 x1 x5) (T_lszWordS_0 x0 x1 x5).val := Runs.ofIt (step := sp_lszWordS_0) (fun v : V_lszWordS_0 => pk_lszWordS_0 v.1 v.2.1 v.2.2) (ct := ct_lszWordS_0) rfl (fun v => ((relB (relB (relB (relB rfl rfl) rfl) rfl) rfl) : (st_lszWordS_0 v.1 v.2.1 v.2.2).val = relS (fun v : V_lszWordS_0 => pk_lszWordS_0 v.1 v.2.1 v.2.2) ct_lszWordS_0 (ss_lszWordS_0 v.1 v.2.1 v.2.2))) (fun a => ((cendB (cendD (by simp)) (cendB (cendD (by simp)) cendF)) : CEnd _ (ct_lszWordS_0 a))) (x0, x1, x5)
theorem rd_lszWordS_0 : ∀ d, execC Try.prog tt S14 QF14 (fun _ _ => none) 0 body_lszWordS_0 (S_lszWordS_0.st d 0 []) (fun e s' => some (e, S_lszWordS_0.cutE (kepts [4] [(0, [1])]) e s')) = (sp_lszWordS_0 d).opt 0 [] := by
  intro d
  kernel_rfl
noncomputable abbrev say_lszWordS_0 : St → Option Tree := S_lszWordS_0.say 0 [] [] (fun d => T_lszWordS_0 d.1.1 d.1.2.1 d.1.2.2.2.2.2.1)
theorem lw_lszWordS_0 : LoopWp Try.prog say_lszWordS_0 body_lszWordS_0 := SS.wp G14 (fun _ _ => none) (by rw [show loopsIn 0 body_lszWordS_0 = [] by kernel_rfl]; simp) S_lszWordS_0 0 [] (kepts [4] [(0, [1])]) [] sp_lszWordS_0 rd_lszWordS_0 _ (fun d => R_lszWordS_0 d.1.1 d.1.2.1 d.1.2.2.2.2.2.1)
noncomputable def lszWordS (a0 : List (Int × Int × Int × (List (Int × ByteArray × ByteArray)) × Bool)) (a1 : Int) : Int := (cond (decide ((IntKind.wrap .i64 (a1 - ((a0.length : Nat) : Int))) < (0 : Int))) (-1 : Int) (cond ((it_lszWordS_0 a0 (IntKind.wrap .i64 (a1 - ((a0.length : Nat) : Int))) (0 : Int)).1 == 0) ((it_lszWordS_0 a0 (IntKind.wrap .i64 (a1 - ((a0.length : Nat) : Int))) (0 : Int)).2.1) ((it_lszWordS_0 a0 (IntKind.wrap .i64 (a1 - ((a0.length : Nat) : Int))) (0 : Int)).2.2)))
noncomputable abbrev e_lszWordS (r : Int) : AV × List AObj := ((.t true (.int .i64) r), [])
noncomputable abbrev g_lszWordS : pshsDen P_lszWordS → AV × List AObj := fun d => e_lszWordS (lszWordS d.1 d.2.1)
noncomputable def q_lszWordS (a0 : List (Int × Int × Int × (List (Int × ByteArray × ByteArray)) × Bool)) (a1 : Int) : Bool := cond (decide ((IntKind.wrap .i64 (a1 - ((a0.length : Nat) : Int))) < (0 : Int))) true (cond ((it_lszWordS_0 a0 (IntKind.wrap .i64 (a1 - ((a0.length : Nat) : Int))) (0 : Int)).1 == 0) true ((it_lszWordS_0 a0 (IntKind.wrap .i64 (a1 - ((a0.length : Nat) : Int))) (0 : Int)).1 == 1))
noncomputable abbrev pre_lszWordS : pshsDen P_lszWordS → Bool := fun d => q_lszWordS d.1 d.2.1
theorem runA_lszWordS (a0 : List (Int × Int × Int × (List (Int × ByteArray × ByteArray)) × Bool)) (a1 : Int) (hp : (cond (decide ((IntKind.wrap .i64 (a1 - ((a0.length : Nat) : Int))) < (0 : Int))) true (cond ((it_lszWordS_0 a0 (IntKind.wrap .i64 (a1 - ((a0.length : Nat) : Int))) (0 : Int)).1 == 0) true ((it_lszWordS_0 a0 (IntKind.wrap .i64 (a1 - ((a0.length : Nat) : Int))) (0 : Int)).1 == 1))) = true) : runP true Try.prog tt S14 QF14 (fun b => match b with | 0 => say_lszWordS_0 | _ => fun _ => none) Try.f40 (argsMk P_lszWordS (a0, (a1, ()))) = some (g_lszWordS (a0, (a1, ()))) := by
  refine Eq.trans (b := (cond (decide ((IntKind.wrap .i64 (a1 - ((a0.length : Nat) : Int))) < (0 : Int))) (some (e_lszWordS (-1 : Int))) (cond ((it_lszWordS_0 a0 (IntKind.wrap .i64 (a1 - ((a0.length : Nat) : Int))) (0 : Int)).1 == 0) (some (e_lszWordS ((it_lszWordS_0 a0 (IntKind.wrap .i64 (a1 - ((a0.length : Nat) : Int))) (0 : Int)).2.1))) (cond ((it_lszWordS_0 a0 (IntKind.wrap .i64 (a1 - ((a0.length : Nat) : Int))) (0 : Int)).1 == 1) (some (e_lszWordS ((it_lszWordS_0 a0 (IntKind.wrap .i64 (a1 - ((a0.length : Nat) : Int))) (0 : Int)).2.2))) none)))) (by kernel_rfl) ?_
  exact (cndQ (F := fun r => some (e_lszWordS r)) hp (fun hp => rfl) (fun hp => (cndQ (F := fun r => some (e_lszWordS r)) hp (fun hp => rfl) (fun hp => (cndT hp (fun _h => rfl))))))
theorem run_lszWordS : ∀ d, pre_lszWordS d = true → runP true Try.prog tt S14 QF14 (fun b => match b with | 0 => say_lszWordS_0 | _ => fun _ => none) Try.f40 (argsMk P_lszWordS d) = some (g_lszWordS d) := fun d hp => runA_lszWordS d.1 d.2.1 hp
theorem c_lszWordS : PContract Try.prog 40 (sumOf P_lszWordS pre_lszWordS g_lszWordS) := PContract.of_data true G14 (fn := Try.f40) (by kernel_rfl) (L := fun b => match b with | 0 => say_lszWordS_0 | _ => fun _ => none) (by rw [show loopsIn 0 (bodyOf Try.f40) = [(0, body_lszWordS_0)] by kernel_rfl]; intro p hp; simp only [List.mem_singleton] at hp; subst hp; exact lw_lszWordS_0) P_lszWordS pre_lszWordS g_lszWordS run_lszWordS
noncomputable def S15 : Tab := Tab.add S14 40 (lift (sumOf P_lszWordS pre_lszWordS g_lszWordS))
noncomputable def QF15 : FuncId → Bool := qadd QF14 40
theorem G15 : Good Try.prog tt S15 QF15 := G14.addQ c_lszWordS ⟨Try.f40, by kernel_rfl, by kernel_rfl, by kernel_rfl⟩ (fun _ => rfl)

/-! 75 loop.example/g00244/laws.szOrder -/
noncomputable abbrev P_lszOrder : List PSh := [.agg [(.int .i64), (.sl (.pair (.int .i64) (.pair .str .str)))], .t (.int .i64)]
noncomputable def lszOrder (a0 : Int) (a1 : List (Int × ByteArray × ByteArray)) (a2 : Int) : Int := (cond (decide ((lszOpS a1 a2) < (0 : Int))) (-1 : Int) (lszOpS a1 a2))
noncomputable abbrev e_lszOrder (r : Int) : AV × List AObj := ((.t true (.int .i64) r), [])
noncomputable abbrev g_lszOrder : pshsDen P_lszOrder → AV × List AObj := fun d => e_lszOrder (lszOrder d.1.1 d.1.2.1 d.2.1)
noncomputable def q_lszOrder (a0 : Int) (a1 : List (Int × ByteArray × ByteArray)) (a2 : Int) : Bool := q_lszOpS a1 a2
noncomputable abbrev pre_lszOrder : pshsDen P_lszOrder → Bool := fun d => q_lszOrder d.1.1 d.1.2.1 d.2.1
theorem runA_lszOrder (a0 : Int) (a1 : List (Int × ByteArray × ByteArray)) (a2 : Int) (hp : (q_lszOpS a1 a2) = true) : runP true Try.prog tt S15 QF15 (fun _ _ => none) Try.f75 (argsMk P_lszOrder ((a0, (a1, ())), (a2, ()))) = some (g_lszOrder ((a0, (a1, ())), (a2, ()))) := by
  refine Eq.trans (b := (cond (q_lszOpS a1 a2) (cond (decide ((lszOpS a1 a2) < (0 : Int))) (some (e_lszOrder (-1 : Int))) (some (e_lszOrder (lszOpS a1 a2)))) none)) (by kernel_rfl) ?_
  exact (cndT hp (fun _h => (cnd (F := fun r => some (e_lszOrder r)) (fun _h => rfl) (fun _h => rfl))))
theorem run_lszOrder : ∀ d, pre_lszOrder d = true → runP true Try.prog tt S15 QF15 (fun _ _ => none) Try.f75 (argsMk P_lszOrder d) = some (g_lszOrder d) := fun d hp => runA_lszOrder d.1.1 d.1.2.1 d.2.1 hp
theorem c_lszOrder : PContract Try.prog 75 (sumOf P_lszOrder pre_lszOrder g_lszOrder) := PContract.of_data true G15 (fn := Try.f75) (by kernel_rfl) (L := fun _ _ => none) (by rw [show loopsIn 0 (bodyOf Try.f75) = [] by kernel_rfl]; simp) P_lszOrder pre_lszOrder g_lszOrder run_lszOrder
noncomputable def S16 : Tab := Tab.add S15 75 (lift (sumOf P_lszOrder pre_lszOrder g_lszOrder))
noncomputable def QF16 : FuncId → Bool := qadd QF15 75
theorem G16 : Good Try.prog tt S16 QF16 := G15.addQ c_lszOrder ⟨Try.f75, by kernel_rfl, by kernel_rfl, by kernel_rfl⟩ (fun _ => rfl)

/-! 41 loop.example/g00244/laws.szOrderS -/
noncomputable abbrev P_lszOrderS : List PSh := [.t (.sl (.pair (.int .i64) (.sl (.pair (.int .i64) (.pair .str .str))))), .t (.int .i64)]
noncomputable abbrev S_lszOrderS_0 : SS := ⟨[.t false (.sl (.pair (.int .i64) (.sl (.pair (.int .i64) (.pair .str .str))))), .t true (.int .i64), .junk, .junk, .junk, .t true (.int .i64), .junk, .junk, .junk, .junk, .junk, .junk, .junk, .junk, .junk, .junk, .junk, .junk, .junk, .junk, .junk, .junk, .junk, .junk, .junk, .junk, .junk], []⟩
noncomputable abbrev E_lszOrderS_0_0 : SS := ⟨[.junk, .junk, .junk, .junk, .t true (.int .i64), .junk, .junk, .junk, .junk, .junk, .junk, .junk, .junk, .junk, .junk, .junk, .junk, .junk, .junk, .junk, .junk, .junk, .junk, .junk, .junk, .junk, .junk], []⟩
noncomputable abbrev E_lszOrderS_0_1 : SS := ⟨[.junk, .t true (.int .i64), .junk, .junk, .junk, .junk, .junk, .junk, .junk, .junk, .junk, .junk, .junk, .junk, .junk, .junk, .junk, .junk, .junk, .junk, .junk, .junk, .junk, .junk, .junk, .junk, .junk], []⟩
noncomputable def st_lszOrderS_0 (x0 : List (Int × List (Int × ByteArray × ByteArray))) (x1 : Int) (x5 : Int) : RT S_lszOrderS_0.den := (.br (decide (x5 < ((x0.length : Nat) : Int))) (.br (decide (0 ≤ x5 ∧ x5 < ((x0.length : Nat) : Int))) (.br (q_lszOrder ((x0.getD x5.toNat ((0 : Int), [])).1) ((x0.getD x5.toNat ((0 : Int), [])).2) x1) (.br (decide ((lszOrder ((x0.getD x5.toNat ((0 : Int), [])).1) ((x0.getD x5.toNat ((0 : Int), [])).2) x1) < (0 : Int))) (.done .ret E_lszOrderS_0_0 (((), (), (), (), (-1 : Int), (), (), (), (), (), (), (), (), (), (), (), (), (), (), (), (), (), (), (), (), (), (), ()), ())) (.next ((x0, (lszOrder ((x0.getD x5.toNat ((0 : Int), [])).1) ((x0.getD x5.toNat ((0 : Int), [])).2) x1), (), (), (), IntKind.wrap .i64 (x5 + (1 : Int)), (), (), (), (), (), (), (), (), (), (), (), (), (), (), (), (), (), (), (), (), (), ()), ()))) .fail) .fail) (.done (.exit 0) E_lszOrderS_0_1 (((), x1, (), (), (), (), (), (), (), (), (), (), (), (), (), (), (), (), (), (), (), (), (), (), (), (), (), ()), ())))
noncomputable abbrev V_lszOrderS_0 := (List (Int × List (Int × ByteArray × ByteArray))) × (Int) × (Int)
noncomputable abbrev A_lszOrderS_0 := Nat × (Int) × (Int)
noncomputable def fl_lszOrderS_0 : A_lszOrderS_0 := (99, ((0 : Int) : Int), ((0 : Int) : Int))
noncomputable def ss_lszOrderS_0 (x0 : List (Int × List (Int × ByteArray × ByteArray))) (x1 : Int) (x5 : Int) : V_lszOrderS_0 ⊕ A_lszOrderS_0 := (cond (decide (x5 < ((x0.length : Nat) : Int))) (cond (decide (0 ≤ x5 ∧ x5 < ((x0.length : Nat) : Int))) (cond (q_lszOrder ((x0.getD x5.toNat ((0 : Int), [])).1) ((x0.getD x5.toNat ((0 : Int), [])).2) x1) (cond (decide ((lszOrder ((x0.getD x5.toNat ((0 : Int), [])).1) ((x0.getD x5.toNat ((0 : Int), [])).2) x1) < (0 : Int))) (.inr (0, (-1 : Int), ((0 : Int) : Int))) (.inl (x0, (lszOrder ((x0.getD x5.toNat ((0 : Int), [])).1) ((x0.getD x5.toNat ((0 : Int), [])).2) x1), IntKind.wrap .i64 (x5 + (1 : Int))))) (.inr fl_lszOrderS_0)) (.inr fl_lszOrderS_0)) (.inr (1, ((0 : Int) : Int), x1)))
noncomputable def it_lszOrderS_0 (x0 : List (Int × List (Int × ByteArray × ByteArray))) (x1 : Int) (x5 : Int) : A_lszOrderS_0 := itX (fun v : V_lszOrderS_0 => ss_lszOrderS_0 v.1 v.2.1 v.2.2) fl_lszOrderS_0 (x0, x1, x5)
noncomputable def ct_lszOrderS_0 (a : A_lszOrderS_0) : CT := (.br (a.1 == 0) (.done .ret E_lszOrderS_0_0 (((), (), (), (), a.2.1, (), (), (), (), (), (), (), (), (), (), (), (), (), (), (), (), (), (), (), (), (), (), ()), ())) (.br (a.1 == 1) (.done (.exit 0) E_lszOrderS_0_1 (((), a.2.2, (), (), (), (), (), (), (), (), (), (), (), (), (), (), (), (), (), (), (), (), (), (), (), (), (), ()), ())) .fail))
noncomputable def T_lszOrderS_0 (x0 : List (Int × List (Int × ByteArray × ByteArray))) (x1 : Int) (x5 : Int) : CT := ct_lszOrderS_0 (it_lszOrderS_0 x0 x1 x5)
noncomputable abbrev sp_lszOrderS_0 : S_lszOrderS_0.den → RT S_lszOrderS_0.den := fun d => st_lszOrderS_0 d.1.1 d.1.2.1 d.1.2.2.2.2.2.1
noncomputable abbrev pk_lszOrderS_0 (x0 : List (Int × List (Int × ByteArray × ByteArray))) (x1 : Int) (x5 : Int) : S_lszOrderS_0.den := ((x0, x1, (), (), (), x5, (), (), (), (), (), (), (), (), (), (), (), (), (), (), (), (), (), (), (), (), (), ()), ())
noncomputable def body_lszOrderS_0 : Code := ((loopsIn 0 (bodyOf Try.f41)).getD 0 (0, .skip)).2
theorem R_lszOrderS_0 (x0 : List (Int × List (Int × ByteArray × ByteArray))) (x1 : Int) (x5 : Int) : (T_lszOrderS_0 x0 x1 x5).val (D := S_lszOrderS_0.den) = .fail ∨ Runs sp_lszOrderS_0 (pk_lszOrderS_0 x0 x1 x5) (T_lszOrderS_0 x0 x1 x5).val := Runs.ofIt (step := sp_lszOrderS_0) (fun v : V_lszOrderS_0 => pk_lszOrderS_0 v.1 v.2.1 v.2.2) (ct := ct_lszOrderS_0) rfl (fun v => ((relB (relB (relB (relB rfl rfl) rfl) rfl) rfl) : (st_lszOrderS_0 v.1 v.2.1 v.2.2).val = relS (fun v : V_lszOrderS_0 => pk_lszOrderS_0 v.1 v.2.1 v.2.2) ct_lszOrderS_0 (ss_lszOrderS_0 v.1 v.2.1 v.2.2))) (fun a => ((cendB (cendD (by simp)) (cendB (cendD (by simp)) cendF)) : CEnd _ (ct_lszOrderS_0 a))) (x0, x1, x5)
theorem rd_lszOrderS_0 : ∀ d, execC Try.prog tt S16 QF16 (fun _ _ => none) 0 body_lszOrderS_0 (S_lszOrderS_0.st d 0 []) (fun e s' => some (e, S_lszOrderS_0.cutE (kepts [4] [(0, [1])]) e s')) = (sp_lszOrderS_0 d).opt 0 [] := by
  intro d
  kernel_rfl
noncomputable abbrev say_lszOrderS_0 : St → Option Tree := S_lszOrderS_0.say 0 [] [] (fun d => T_lszOrderS_0 d.1.1 d.1.2.1 d.1.2.2.2.2.2.1)
theorem lw_lszOrderS_0 : LoopWp Try.prog say_lszOrderS_0 body_lszOrderS_0 := SS.wp G16 (fun _ _ => none) (by rw [show loopsIn 0 body_lszOrderS_0 = [] by kernel_rfl]; simp) S_lszOrderS_0 0 [] (kepts [4] [(0, [1])]) [] sp_lszOrderS_0 rd_lszOrderS_0 _ (fun d => R_lszOrderS_0 d.1.1 d.1.2.1 d.1.2.2.2.2.2.1)
noncomputable def lszOrderS (a0 : List (Int × List (Int × ByteArray × ByteArray))) (a1 : Int) : Int := (cond (decide ((IntKind.wrap .i64 (a1 - ((a0.length : Nat) : Int))) < (0 : Int))) (-1 : Int) (cond ((it_lszOrderS_0 a0 (IntKind.wrap .i64 (a1 - ((a0.length : Nat) : Int))) (0 : Int)).1 == 0) ((it_lszOrderS_0 a0 (IntKind.wrap .i64 (a1 - ((a0.length : Nat) : Int))) (0 : Int)).2.1) ((it_lszOrderS_0 a0 (IntKind.wrap .i64 (a1 - ((a0.length : Nat) : Int))) (0 : Int)).2.2)))
noncomputable abbrev e_lszOrderS (r : Int) : AV × List AObj := ((.t true (.int .i64) r), [])
noncomputable abbrev g_lszOrderS : pshsDen P_lszOrderS → AV × List AObj := fun d => e_lszOrderS (lszOrderS d.1 d.2.1)
noncomputable def q_lszOrderS (a0 : List (Int × List (Int × ByteArray × ByteArray))) (a1 : Int) : Bool := cond (decide ((IntKind.wrap .i64 (a1 - ((a0.length : Nat) : Int))) < (0 : Int))) true (cond ((it_lszOrderS_0 a0 (IntKind.wrap .i64 (a1 - ((a0.length : Nat) : Int))) (0 : Int)).1 == 0) true ((it_lszOrderS_0 a0 (IntKind.wrap .i64 (a1 - ((a0.length : Nat) : Int))) (0 : Int)).1 == 1))
noncomputable abbrev pre_lszOrderS : pshsDen P_lszOrderS → Bool := fun d => q_lszOrderS d.1 d.2.1
theorem runA_lszOrderS (a0 : List (Int × List (Int × ByteArray × ByteArray))) (a1 : Int) (hp : (cond (decide ((IntKind.wrap .i64 (a1 - ((a0.length : Nat) : Int))) < (0 : Int))) true (cond ((it_lszOrderS_0 a0 (IntKind.wrap .i64 (a1 - ((a0.length : Nat) : Int))) (0 : Int)).1 == 0) true ((it_lszOrderS_0 a0 (IntKind.wrap .i64 (a1 - ((a0.length : Nat) : Int))) (0 : Int)).1 == 1))) = true) : runP true Try.prog tt S16 QF16 (fun b => match b with | 0 => say_lszOrderS_0 | _ => fun _ => none) Try.f41 (argsMk P_lszOrderS (a0, (a1, ()))) = some (g_lszOrderS (a0, (a1, ()))) := by
  refine Eq.trans (b := (cond (decide ((IntKind.wrap .i64 (a1 - ((a0.length : Nat) : Int))) < (0 : Int))) (some (e_lszOrderS (-1 : Int))) (cond ((it_lszOrderS_0 a0 (IntKind.wrap .i64 (a1 - ((a0.length : Nat) : Int))) (0 : Int)).1 == 0) (some (e_lszOrderS ((it_lszOrderS_0 a0 (IntKind.wrap .i64 (a1 - ((a0.length : Nat) : Int))) (0 : Int)).2.1))) (cond ((it_lszOrderS_0 a0 (IntKind.wrap .i64 (a1 - ((a0.length : Nat) : Int))) (0 : Int)).1 == 1) (some (e_lszOrderS ((it_lszOrderS_0 a0 (IntKind.wrap .i64 (a1 - ((a0.length : Nat) : Int))) (0 : Int)).2.2))) none)))) (by kernel_rfl) ?_
  exact (cndQ (F := fun r => some (e_lszOrderS r)) hp (fun hp => rfl) (fun hp => (cndQ (F := fun r => some (e_lszOrderS r)) hp (fun hp => rfl) (fun hp => (cndT hp (fun _h => rfl))))))
theorem run_lszOrderS : ∀ d, pre_lszOrderS d = true → runP true Try.prog tt S16 QF16 (fun b => match b with | 0 => say_lszOrderS_0 | _ => fun _ => none) Try.f41 (argsMk P_lszOrderS d) = some (g_lszOrderS d) := fun d hp => runA_lszOrderS d.1 d.2.1 hp
theorem c_lszOrderS : PContract Try.prog 41 (sumOf P_lszOrderS pre_lszOrderS g_lszOrderS) := PContract.of_data true G16 (fn := Try.f41) (by kernel_rfl) (L := fun b => match b with | 0 => say_lszOrderS_0 | _ => fun _ => none) (by rw [show loopsIn 0 (bodyOf Try.f41) = [(0, body_lszOrderS_0)] by kernel_rfl]; intro p hp; simp only [List.mem_singleton] at hp; subst hp; exact lw_lszOrderS_0) P_lszOrderS pre_lszOrderS g_lszOrderS run_lszOrderS
noncomputable def S17 : Tab := Tab.add S16 41 (lift (sumOf P_lszOrderS pre_lszOrderS g_lszOrderS))
noncomputable def QF17 : FuncId → Bool := qadd QF16 41
theorem G17 : Good Try.prog tt S17 QF17 := G16.addQ c_lszOrderS ⟨Try.f41, by kernel_rfl, by kernel_rfl, by kernel_rfl⟩ (fun _ => rfl)

/-! 12 loop.example/g00244/laws.szWorld -/
noncomputable abbrev P_lszWorld : List PSh := [.agg [(.int .i64), (.int .i64), (.int .i64), (.sl (.pair (.int .i64) (.pair (.sl (.pair (.int .i64) (.pair .str .str))) (.pair (.int .i64) (.sl (.int .i64)))))), (.sl (.pair (.int .i64) .bool)), (.int .i64), (.sl (.pair (.int .i64) (.pair (.sl (.pair (.int .i64) (.pair (.int .i64) (.sl (.pair (.int .i64) (.pair .str .str)))))) (.pair (.int .i64) (.pair (.sl (.pair .str .str)) (.sl (.pair (.int .i64) (.pair (.int .i64) (.sl (.pair (.int .i64) (.pair .str .str))))))))))), (.sl (.pair (.int .i64) (.pair (.int .i64) (.pair (.int .i64) (.pair (.sl (.pair (.int .i64) (.pair .str .str))) .bool))))), (.sl (.pair (.int .i64) (.pair (.int .i64) (.pair (.int .i64) (.pair (.sl (.pair (.int .i64) (.pair .str .str))) .bool))))), (.sl (.pair (.int .i64) (.sl (.pair (.int .i64) (.pair .str .str)))))], .t (.int .i64)]
noncomputable def lszWorld (a0 : Int) (a1 : Int) (a2 : Int) (a3 : List (Int × (List (Int × ByteArray × ByteArray)) × Int × List Int)) (a4 : List (Int × Bool)) (a5 : Int) (a6 : List (Int × (List (Int × Int × List (Int × ByteArray × ByteArray))) × Int × (List (ByteArray × ByteArray)) × List (Int × Int × List (Int × ByteArray × ByteArray)))) (a7 : List (Int × Int × Int × (List (Int × ByteArray × ByteArray)) × Bool)) (a8 : List (Int × Int × Int × (List (Int × ByteArray × ByteArray)) × Bool)) (a9 : List (Int × List (Int × ByteArray × ByteArray))) (a10 : Int) : Int := (cond (decide ((lszCoord a0 a1 a2 a3 a4 a5 a10) < (0 : Int))) (-1 : Int) (cond (decide ((lszShardS a6 (lszCoord a0 a1 a2 a3 a4 a5 a10)) < (0 : Int))) (-1 : Int) (cond (decide ((lszWordS a7 (lszShardS a6 (lszCoord a0 a1 a2 a3 a4 a5 a10))) < (0 : Int))) (-1 : Int) (cond (decide ((lszWordS a8 (lszWordS a7 (lszShardS a6 (lszCoord a0 a1 a2 a3 a4 a5 a10)))) < (0 : Int))) (-1 : Int) (cond (decide ((lszOrderS a9 (lszWordS a8 (lszWordS a7 (lszShardS a6 (lszCoord a0 a1 a2 a3 a4 a5 a10))))) < (0 : Int))) (-1 : Int) (lszOrderS a9 (lszWordS a8 (lszWordS a7 (lszShardS a6 (lszCoord a0 a1 a2 a3 a4 a5 a10))))))))))
noncomputable abbrev e_lszWorld (r : Int) : AV × List AObj := ((.t true (.int .i64) r), [])
noncomputable abbrev g_lszWorld : pshsDen P_lszWorld → AV × List AObj := fun d => e_lszWorld (lszWorld d.1.1 d.1.2.1 d.1.2.2.1 d.1.2.2.2.1 d.1.2.2.2.2.1 d.1.2.2.2.2.2.1 d.1.2.2.2.2.2.2.1 d.1.2.2.2.2.2.2.2.1 d.1.2.2.2.2.2.2.2.2.1 d.1.2.2.2.2.2.2.2.2.2.1 d.2.1)
noncomputable def q_lszWorld (a0 : Int) (a1 : Int) (a2 : Int) (a3 : List (Int × (List (Int × ByteArray × ByteArray)) × Int × List Int)) (a4 : List (Int × Bool)) (a5 : Int) (a6 : List (Int × (List (Int × Int × List (Int × ByteArray × ByteArray))) × Int × (List (ByteArray × ByteArray)) × List (Int × Int × List (Int × ByteArray × ByteArray)))) (a7 : List (Int × Int × Int × (List (Int × ByteArray × ByteArray)) × Bool)) (a8 : List (Int × Int × Int × (List (Int × ByteArray × ByteArray)) × Bool)) (a9 : List (Int × List (Int × ByteArray × ByteArray))) (a10 : Int) : Bool := (q_lszCoord a0 a1 a2 a3 a4 a5 a10) && (cond (decide ((lszCoord a0 a1 a2 a3 a4 a5 a10) < (0 : Int))) true ((q_lszShardS a6 (lszCoord a0 a1 a2 a3 a4 a5 a10)) && (cond (decide ((lszShardS a6 (lszCoord a0 a1 a2 a3 a4 a5 a10)) < (0 : Int))) true ((q_lszWordS a7 (lszShardS a6 (lszCoord a0 a1 a2 a3 a4 a5 a10))) && (cond (decide ((lszWordS a7 (lszShardS a6 (lszCoord a0 a1 a2 a3 a4 a5 a10))) < (0 : Int))) true ((q_lszWordS a8 (lszWordS a7 (lszShardS a6 (lszCoord a0 a1 a2 a3 a4 a5 a10)))) && (cond (decide ((lszWordS a8 (lszWordS a7 (lszShardS a6 (lszCoord a0 a1 a2 a3 a4 a5 a10)))) < (0 : Int))) true (q_lszOrderS a9 (lszWordS a8 (lszWordS a7 (lszShardS a6 (lszCoord a0 a1 a2 a3 a4 a5 a10))))))))))))
noncomputable abbrev pre_lszWorld : pshsDen P_lszWorld → Bool := fun d => q_lszWorld d.1.1 d.1.2.1 d.1.2.2.1 d.1.2.2.2.1 d.1.2.2.2.2.1 d.1.2.2.2.2.2.1 d.1.2.2.2.2.2.2.1 d.1.2.2.2.2.2.2.2.1 d.1.2.2.2.2.2.2.2.2.1 d.1.2.2.2.2.2.2.2.2.2.1 d.2.1
theorem runA_lszWorld (a0 : Int) (a1 : Int) (a2 : Int) (a3 : List (Int × (List (Int × ByteArray × ByteArray)) × Int × List Int)) (a4 : List (Int × Bool)) (a5 : Int) (a6 : List (Int × (List (Int × Int × List (Int × ByteArray × ByteArray))) × Int × (List (ByteArray × ByteArray)) × List (Int × Int × List (Int × ByteArray × ByteArray)))) (a7 : List (Int × Int × Int × (List (Int × ByteArray × ByteArray)) × Bool)) (a8 : List (Int × Int × Int × (List (Int × ByteArray × ByteArray)) × Bool)) (a9 : List (Int × List (Int × ByteArray × ByteArray))) (a10 : Int) (hp : ((q_lszCoord a0 a1 a2 a3 a4 a5 a10) && (cond (decide ((lszCoord a0 a1 a2 a3 a4 a5 a10) < (0 : Int))) true ((q_lszShardS a6 (lszCoord a0 a1 a2 a3 a4 a5 a10)) && (cond (decide ((lszShardS a6 (lszCoord a0 a1 a2 a3 a4 a5 a10)) < (0 : Int))) true ((q_lszWordS a7 (lszShardS a6 (lszCoord a0 a1 a2 a3 a4 a5 a10))) && (cond (decide ((lszWordS a7 (lszShardS a6 (lszCoord a0 a1 a2 a3 a4 a5 a10))) < (0 : Int))) true ((q_lszWordS a8 (lszWordS a7 (lszShardS a6 (lszCoord a0 a1 a2 a3 a4 a5 a10)))) && (cond (decide ((lszWordS a8 (lszWordS a7 (lszShardS a6 (lszCoord a0 a1 a2 a3 a4 a5 a10)))) < (0 : Int))) true (q_lszOrderS a9 (lszWordS a8 (lszWordS a7 (lszShardS a6 (lszCoord a0 a1 a2 a3 a4 a5 a10))))))))))))) = true) : runP true Try.prog tt S17 QF17 (fun _ _ => none) Try.f12 (argsMk P_lszWorld ((a0, (a1, (a2, (a3, (a4, (a5, (a6, (a7, (a8, (a9, ())))))))))), (a10, ()))) = some (g_lszWorld ((a0, (a1, (a2, (a3, (a4, (a5, (a6, (a7, (a8, (a9, ())))))))))), (a10, ()))) := by
  refine Eq.trans (b := (cond (q_lszCoord a0 a1 a2 a3 a4 a5 a10) (cond (decide ((lszCoord a0 a1 a2 a3 a4 a5 a10) < (0 : Int))) (some (e_lszWorld (-1 : Int))) (cond (q_lszShardS a6 (lszCoord a0 a1 a2 a3 a4 a5 a10)) (cond (decide ((lszShardS a6 (lszCoord a0 a1 a2 a3 a4 a5 a10)) < (0 : Int))) (some (e_lszWorld (-1 : Int))) (cond (q_lszWordS a7 (lszShardS a6 (lszCoord a0 a1 a2 a3 a4 a5 a10))) (cond (decide ((lszWordS a7 (lszShardS a6 (lszCoord a0 a1 a2 a3 a4 a5 a10))) < (0 : Int))) (some (e_lszWorld (-1 : Int))) (cond (q_lszWordS a8 (lszWordS a7 (lszShardS a6 (lszCoord a0 a1 a2 a3 a4 a5 a10)))) (cond (decide ((lszWordS a8 (lszWordS a7 (lszShardS a6 (lszCoord a0 a1 a2 a3 a4 a5 a10)))) < (0 : Int))) (some (e_lszWorld (-1 : Int))) (cond (q_lszOrderS a9 (lszWordS a8 (lszWordS a7 (lszShardS a6 (lszCoord a0 a1 a2 a3 a4 a5 a10))))) (cond (decide ((lszOrderS a9 (lszWordS a8 (lszWordS a7 (lszShardS a6 (lszCoord a0 a1 a2 a3 a4 a5 a10))))) < (0 : Int))) (some (e_lszWorld (-1 : Int))) (some (e_lszWorld (lszOrderS a9 (lszWordS a8 (lszWordS a7 (lszShardS a6 (lszCoord a0 a1 a2 a3 a4 a5 a10)))))))) none)) none)) none)) none)) none)) (by kernel_rfl) ?_
  exact (cndT (andL hp) (fun _h => (fun hp => (cndQ (F := fun r => some (e_lszWorld r)) hp (fun hp => rfl) (fun hp => (cndT (andL hp) (fun _h => (fun hp => (cndQ (F := fun r => some (e_lszWorld r)) hp (fun hp => rfl) (fun hp => (cndT (andL hp) (fun _h => (fun hp => (cndQ (F := fun r => some (e_lszWorld r)) hp (fun hp => rfl) (fun hp => (cndT (andL hp) (fun _h => (fun hp => (cndQ (F := fun r => some (e_lszWorld r)) hp (fun hp => rfl) (fun hp => (cndT hp (fun _h => (cnd (F := fun r => some (e_lszWorld r)) (fun _h => rfl) (fun _h => rfl))))))) (andR hp)))))) (andR hp)))))) (andR hp)))))) (andR hp)))
theorem run_lszWorld : ∀ d, pre_lszWorld d = true → runP true Try.prog tt S17 QF17 (fun _ _ => none) Try.f12 (argsMk P_lszWorld d) = some (g_lszWorld d) := fun d hp => runA_lszWorld d.1.1 d.1.2.1 d.1.2.2.1 d.1.2.2.2.1 d.1.2.2.2.2.1 d.1.2.2.2.2.2.1 d.1.2.2.2.2.2.2.1 d.1.2.2.2.2.2.2.2.1 d.1.2.2.2.2.2.2.2.2.1 d.1.2.2.2.2.2.2.2.2.2.1 d.2.1 hp
theorem c_lszWorld : PContract Try.prog 12 (sumOf P_lszWorld pre_lszWorld g_lszWorld) := PContract.of_data true G17 (fn := Try.f12) (by kernel_rfl) (L := fun _ _ => none) (by rw [show loopsIn 0 (bodyOf Try.f12) = [] by kernel_rfl]; simp) P_lszWorld pre_lszWorld g_lszWorld run_lszWorld
noncomputable def S18 : Tab := Tab.add S17 12 (lift (sumOf P_lszWorld pre_lszWorld g_lszWorld))
noncomputable def QF18 : FuncId → Bool := qadd QF17 12
theorem G18 : Good Try.prog tt S18 QF18 := G17.addQ c_lszWorld ⟨Try.f12, by kernel_rfl, by kernel_rfl, by kernel_rfl⟩ (fun _ => rfl)

/-! 115 loop.example/g00244/laws.toOp -/
noncomputable abbrev P_ltoOp : List PSh := [.agg [(.int .i64), .str, .str]]
noncomputable def ltoOp (a0 : Int) (a1 : ByteArray) (a2 : ByteArray) : Int × ByteArray × ByteArray := (a0, a1, a2)
noncomputable abbrev e_ltoOp (r : Int × ByteArray × ByteArray) : AV × List AObj := ((.agg [(.t true (.int .i64) r.1), (.t true .str r.2.1), (.t true .str r.2.2)]), [])
noncomputable abbrev g_ltoOp : pshsDen P_ltoOp → AV × List AObj := fun d => e_ltoOp (ltoOp d.1.1 d.1.2.1 d.1.2.2.1)
noncomputable abbrev pre_ltoOp : pshsDen P_ltoOp → Bool := fun d => true
theorem runA_ltoOp (a0 : Int) (a1 : ByteArray) (a2 : ByteArray) : runP true Try.prog tt S18 QF18 (fun _ _ => none) Try.f115 (argsMk P_ltoOp ((a0, (a1, (a2, ()))), ())) = some (g_ltoOp ((a0, (a1, (a2, ()))), ())) := by
  kernel_rfl
theorem run_ltoOp : ∀ d, pre_ltoOp d = true → runP true Try.prog tt S18 QF18 (fun _ _ => none) Try.f115 (argsMk P_ltoOp d) = some (g_ltoOp d) := fun d hp => runA_ltoOp d.1.1 d.1.2.1 d.1.2.2.1
theorem c_ltoOp : PContract Try.prog 115 (sumOf P_ltoOp pre_ltoOp g_ltoOp) := PContract.of_data true G18 (fn := Try.f115) (by kernel_rfl) (L := fun _ _ => none) (by rw [show loopsIn 0 (bodyOf Try.f115) = [] by kernel_rfl]; simp) P_ltoOp pre_ltoOp g_ltoOp run_ltoOp
noncomputable def S19 : Tab := Tab.add S18 115 (lift (sumOf P_ltoOp pre_ltoOp g_ltoOp))
noncomputable def QF19 : FuncId → Bool := qadd QF18 115
theorem G19 : Good Try.prog tt S19 QF19 := G18.addQ c_ltoOp ⟨Try.f115, by kernel_rfl, by kernel_rfl, by kernel_rfl⟩ (fun _ => rfl)

/-! 101 loop.example/g00244/laws.toOpS -/
noncomputable def f_ltoOpS_0 (x0 : List (Int × ByteArray × ByteArray)) (i : Nat) : Int × ByteArray × ByteArray := (((ltoOp ((x0.getD i ((0 : Int), ((⟨#[]⟩ : ByteArray), (⟨#[]⟩ : ByteArray)))).1) (((x0.getD i ((0 : Int), ((⟨#[]⟩ : ByteArray), (⟨#[]⟩ : ByteArray)))).2).1) (((x0.getD i ((0 : Int), ((⟨#[]⟩ : ByteArray), (⟨#[]⟩ : ByteArray)))).2).2)).1), (((ltoOp ((x0.getD i ((0 : Int), ((⟨#[]⟩ : ByteArray), (⟨#[]⟩ : ByteArray)))).1) (((x0.getD i ((0 : Int), ((⟨#[]⟩ : ByteArray), (⟨#[]⟩ : ByteArray)))).2).1) (((x0.getD i ((0 : Int), ((⟨#[]⟩ : ByteArray), (⟨#[]⟩ : ByteArray)))).2).2)).2.1), ((ltoOp ((x0.getD i ((0 : Int), ((⟨#[]⟩ : ByteArray), (⟨#[]⟩ : ByteArray)))).1) (((x0.getD i ((0 : Int), ((⟨#[]⟩ : ByteArray), (⟨#[]⟩ : ByteArray)))).2).1) (((x0.getD i ((0 : Int), ((⟨#[]⟩ : ByteArray), (⟨#[]⟩ : ByteArray)))).2).2)).2.2)))
noncomputable abbrev P_ltoOpS : List PSh := [.t (.sl (.pair (.int .i64) (.pair .str .str)))]
noncomputable abbrev S_ltoOpS_0 : SS := ⟨[.t false (.sl (.pair (.int .i64) (.pair .str .str))), .junk, .junk, .all 0 3, .t true (.int .i64), .junk, .junk, .junk, .junk, .junk, .junk, .junk, .junk, .junk, .junk, .junk, .junk, .junk, .junk, .junk, .junk, .junk, .junk], [.rows 83 true (.pair (.int .i64) (.pair .str .str))]⟩
noncomputable abbrev E_ltoOpS_0_0 : SS := ⟨[.junk, .junk, .junk, .all 0 3, .junk, .junk, .junk, .junk, .junk, .junk, .junk, .junk, .junk, .junk, .junk, .junk, .junk, .junk, .junk, .junk, .junk, .junk, .junk], [.rows 83 true (.pair (.int .i64) (.pair .str .str))]⟩
noncomputable def st_ltoOpS_0 (x0 : List (Int × ByteArray × ByteArray)) (x4 : Int) (h0 : List (Int × ByteArray × ByteArray)) : RT S_ltoOpS_0.den := (.br (decide (x4 < ((x0.length : Nat) : Int))) (.br (decide (0 ≤ x4 ∧ x4 < ((x0.length : Nat) : Int))) (.br (decide (0 ≤ x4 ∧ x4 < ((h0.length : Nat) : Int))) (.next ((x0, (), (), (), IntKind.wrap .i64 (x4 + (1 : Int)), (), (), (), (), (), (), (), (), (), (), (), (), (), (), (), (), (), (), ()), (h0.set x4.toNat (((ltoOp ((x0.getD x4.toNat ((0 : Int), ((⟨#[]⟩ : ByteArray), (⟨#[]⟩ : ByteArray)))).1) (((x0.getD x4.toNat ((0 : Int), ((⟨#[]⟩ : ByteArray), (⟨#[]⟩ : ByteArray)))).2).1) (((x0.getD x4.toNat ((0 : Int), ((⟨#[]⟩ : ByteArray), (⟨#[]⟩ : ByteArray)))).2).2)).1), (((ltoOp ((x0.getD x4.toNat ((0 : Int), ((⟨#[]⟩ : ByteArray), (⟨#[]⟩ : ByteArray)))).1) (((x0.getD x4.toNat ((0 : Int), ((⟨#[]⟩ : ByteArray), (⟨#[]⟩ : ByteArray)))).2).1) (((x0.getD x4.toNat ((0 : Int), ((⟨#[]⟩ : ByteArray), (⟨#[]⟩ : ByteArray)))).2).2)).2.1), ((ltoOp ((x0.getD x4.toNat ((0 : Int), ((⟨#[]⟩ : ByteArray), (⟨#[]⟩ : ByteArray)))).1) (((x0.getD x4.toNat ((0 : Int), ((⟨#[]⟩ : ByteArray), (⟨#[]⟩ : ByteArray)))).2).1) (((x0.getD x4.toNat ((0 : Int), ((⟨#[]⟩ : ByteArray), (⟨#[]⟩ : ByteArray)))).2).2)).2.2))), ()))) .fail) .fail) (.done (.exit 0) E_ltoOpS_0_0 (((), (), (), (), (), (), (), (), (), (), (), (), (), (), (), (), (), (), (), (), (), (), (), ()), (h0, ()))))
noncomputable def T_ltoOpS_0 (x0 : List (Int × ByteArray × ByteArray)) (x4 : Int) (h0 : List (Int × ByteArray × ByteArray)) : CT := (.br (decide (0 ≤ x4) && (decide (h0.length = x0.length) && okL x0)) (.done (.exit 0) E_ltoOpS_0_0 (((), (), (), (), (), (), (), (), (), (), (), (), (), (), (), (), (), (), (), (), (), (), (), ()), ((foldN (fun i h => h.set i (f_ltoOpS_0 x0 i)) (x0.length - x4.toNat) x4.toNat h0), ()))) .fail)
noncomputable abbrev sp_ltoOpS_0 : S_ltoOpS_0.den → RT S_ltoOpS_0.den := fun d => st_ltoOpS_0 d.1.1 d.1.2.2.2.2.1 d.2.1
noncomputable abbrev pk_ltoOpS_0 (x0 : List (Int × ByteArray × ByteArray)) (x4 : Int) (h0 : List (Int × ByteArray × ByteArray)) : S_ltoOpS_0.den := ((x0, (), (), (), x4, (), (), (), (), (), (), (), (), (), (), (), (), (), (), (), (), (), (), ()), (h0, ()))
noncomputable def body_ltoOpS_0 : Code := ((loopsIn 0 (bodyOf Try.f101)).getD 0 (0, .skip)).2
theorem R_ltoOpS_0 (x0 : List (Int × ByteArray × ByteArray)) (x4 : Int) (h0 : List (Int × ByteArray × ByteArray)) : (T_ltoOpS_0 x0 x4 h0).val (D := S_ltoOpS_0.den) = .fail ∨ Runs sp_ltoOpS_0 (pk_ltoOpS_0 x0 x4 h0) (T_ltoOpS_0 x0 x4 h0).val := by
  cases hc : (decide (0 ≤ x4) && (decide (h0.length = x0.length) && okL x0)) with
  | false => left; simp only [T_ltoOpS_0, CT.val, hc, cond_false]
  | true =>
    right
    simp only [T_ltoOpS_0, CT.val, hc, cond_true]
    simp only [Bool.and_eq_true, decide_eq_true_eq] at hc
    obtain ⟨i, rfl⟩ := Int.eq_ofNat_of_zero_le hc.1
    have hs := okL_le hc.2.2
    simp only [Int.toNat_natCast]
    refine Runs.foldN (step := sp_ltoOpS_0) (fun j b => pk_ltoOpS_0 x0 (j : Int) b) (fun _ b => b.length = x0.length) (x0.length) (fun i h => h.set i (f_ltoOpS_0 x0 i))
      (fin := fun b => ((.done (.exit 0) E_ltoOpS_0_0 (((), (), (), (), (), (), (), (), (), (), (), (), (), (), (), (), (), (), (), (), (), (), (), ()), (b, ()))) : CT).val) (fun i b hi hb => ⟨by simpa using hb, ?_⟩) (fun i b hi hb => ?_) (x0.length - i) i h0 rfl hc.2.1
    · 
      have h0a : decide ((i : Int) < ((x0.length : Nat) : Int)) = true := decide_eq_true (by omega)
      have h0b : decide (0 ≤ (i : Int) ∧ (i : Int) < ((x0.length : Nat) : Int)) = true := decide_eq_true (by omega)
      have h9 : decide (0 ≤ (i : Int) ∧ (i : Int) < ((b.length : Nat) : Int)) = true := decide_eq_true (by omega)
      simp only [sp_ltoOpS_0, st_ltoOpS_0, RT.val, h0a, h0b, h9, cond_true, wrapS i (by omega), Int.toNat_natCast]
      rfl
    · have h1 : decide ((i : Int) < ((x0.length : Nat) : Int)) = false := decide_eq_false (by omega)
      exact ⟨by simp only [sp_ltoOpS_0, st_ltoOpS_0, RT.val, h1, cond_false]; rfl, _, _, _, rfl, by simp⟩
theorem rd_ltoOpS_0 : ∀ d, execC Try.prog tt S19 QF19 (fun _ _ => none) 0 body_ltoOpS_0 (S_ltoOpS_0.st d 0 []) (fun e s' => some (e, S_ltoOpS_0.cutE (kepts [] [(0, [3])]) e s')) = (sp_ltoOpS_0 d).opt 0 [] := by
  intro d
  kernel_rfl
noncomputable abbrev say_ltoOpS_0 : St → Option Tree := S_ltoOpS_0.say 0 [] [] (fun d => T_ltoOpS_0 d.1.1 d.1.2.2.2.2.1 d.2.1)
theorem lw_ltoOpS_0 : LoopWp Try.prog say_ltoOpS_0 body_ltoOpS_0 := SS.wp G19 (fun _ _ => none) (by rw [show loopsIn 0 body_ltoOpS_0 = [] by kernel_rfl]; simp) S_ltoOpS_0 0 [] (kepts [] [(0, [3])]) [] sp_ltoOpS_0 rd_ltoOpS_0 _ (fun d => R_ltoOpS_0 d.1.1 d.1.2.2.2.2.1 d.2.1)
noncomputable def ltoOpS (a0 : List (Int × ByteArray × ByteArray)) : List (Int × ByteArray × ByteArray) := (foldN (fun i h => h.set i (f_ltoOpS_0 a0 i)) (a0.length - (0 : Int).toNat) (0 : Int).toNat (List.replicate ((a0.length : Nat) : Int).toNat ((0 : Int), ((⟨#[]⟩ : ByteArray), (⟨#[]⟩ : ByteArray)))))
noncomputable abbrev e_ltoOpS (r : List (Int × ByteArray × ByteArray)) : AV × List AObj := ((.t true (.sl (.pair (.int .i64) (.pair .str .str))) r), [])
noncomputable abbrev g_ltoOpS : pshsDen P_ltoOpS → AV × List AObj := fun d => e_ltoOpS (ltoOpS d.1)
noncomputable def q_ltoOpS (a0 : List (Int × ByteArray × ByteArray)) : Bool := okL a0
noncomputable abbrev pre_ltoOpS : pshsDen P_ltoOpS → Bool := fun d => q_ltoOpS d.1
theorem runA_ltoOpS (a0 : List (Int × ByteArray × ByteArray)) (hp : (okL a0) = true) : runP true Try.prog tt S19 QF19 (fun b => match b with | 0 => say_ltoOpS_0 | _ => fun _ => none) Try.f101 (argsMk P_ltoOpS (a0, ())) = some (g_ltoOpS (a0, ())) := by
  refine Eq.trans (b := (cond (decide (0 ≤ ((a0.length : Nat) : Int) ∧ ((a0.length : Nat) : Int) = ((a0.length : Nat) : Int) ∧ ((a0.length : Nat) : Int).toNat * 40 ≤ MAXB ∧ ((a0.length : Nat) : Int) ≤ 9223372036854775807)) (cond (decide (0 ≤ (0 : Int)) && (decide ((List.replicate ((a0.length : Nat) : Int).toNat ((0 : Int), ((⟨#[]⟩ : ByteArray), (⟨#[]⟩ : ByteArray)))).length = a0.length) && okL a0)) (some (e_ltoOpS (foldN (fun i h => h.set i (f_ltoOpS_0 a0 i)) (a0.length - (0 : Int).toNat) (0 : Int).toNat (List.replicate ((a0.length : Nat) : Int).toNat ((0 : Int), ((⟨#[]⟩ : ByteArray), (⟨#[]⟩ : ByteArray))))))) none) none)) (by kernel_rfl) ?_
  exact (cndT (by first | rfl | decide | exact hp | (simp only [Bool.and_eq_true] at hp; simp only [hp]; done) | (simp [*]; done) | (simp [okL] at hp; simp [okL, MAXB]; omega) | (simp_all; done) | (simp at *; omega)) (fun _h => (cndT (by first | rfl | decide | exact hp | (simp only [Bool.and_eq_true] at hp; simp only [hp]; done) | (simp [*]; done) | (simp [okL] at hp; simp [okL, MAXB]; omega) | (simp_all; done) | (simp at *; omega)) (fun _h => rfl))))
theorem run_ltoOpS : ∀ d, pre_ltoOpS d = true → runP true Try.prog tt S19 QF19 (fun b => match b with | 0 => say_ltoOpS_0 | _ => fun _ => none) Try.f101 (argsMk P_ltoOpS d) = some (g_ltoOpS d) := fun d hp => runA_ltoOpS d.1 hp
theorem c_ltoOpS : PContract Try.prog 101 (sumOf P_ltoOpS pre_ltoOpS g_ltoOpS) := PContract.of_data true G19 (fn := Try.f101) (by kernel_rfl) (L := fun b => match b with | 0 => say_ltoOpS_0 | _ => fun _ => none) (by rw [show loopsIn 0 (bodyOf Try.f101) = [(0, body_ltoOpS_0)] by kernel_rfl]; intro p hp; simp only [List.mem_singleton] at hp; subst hp; exact lw_ltoOpS_0) P_ltoOpS pre_ltoOpS g_ltoOpS run_ltoOpS
noncomputable def S20 : Tab := Tab.add S19 101 (lift (sumOf P_ltoOpS pre_ltoOpS g_ltoOpS))
noncomputable def QF20 : FuncId → Bool := qadd QF19 101
theorem G20 : Good Try.prog tt S20 QF20 := G19.addQ c_ltoOpS ⟨Try.f101, by kernel_rfl, by kernel_rfl, by kernel_rfl⟩ (fun _ => rfl)

/-! 112 loop.example/g00244/laws.toIntS -/
noncomputable def f_ltoIntS_0 (x0 : List Int) (i : Nat) : Int := (x0.getD i (0 : Int))
noncomputable abbrev P_ltoIntS : List PSh := [.t (.sl (.int .i64))]
noncomputable abbrev S_ltoIntS_0 : SS := ⟨[.t false (.sl (.int .i64)), .junk, .junk, .all 0 1, .t true (.int .i64), .junk, .junk, .junk, .junk, .junk, .junk, .junk, .junk, .junk, .junk, .junk, .junk, .junk, .junk, .junk, .junk, .junk], [.rows 3 true (.int .i64)]⟩
noncomputable abbrev E_ltoIntS_0_0 : SS := ⟨[.junk, .junk, .junk, .all 0 1, .junk, .junk, .junk, .junk, .junk, .junk, .junk, .junk, .junk, .junk, .junk, .junk, .junk, .junk, .junk, .junk, .junk, .junk], [.rows 3 true (.int .i64)]⟩
noncomputable def st_ltoIntS_0 (x0 : List Int) (x4 : Int) (h0 : List Int) : RT S_ltoIntS_0.den := (.br (decide (x4 < ((x0.length : Nat) : Int))) (.br (decide (0 ≤ x4 ∧ x4 < ((x0.length : Nat) : Int))) (.br (decide (0 ≤ x4 ∧ x4 < ((h0.length : Nat) : Int))) (.next ((x0, (), (), (), IntKind.wrap .i64 (x4 + (1 : Int)), (), (), (), (), (), (), (), (), (), (), (), (), (), (), (), (), (), ()), (h0.set x4.toNat (x0.getD x4.toNat (0 : Int)), ()))) .fail) .fail) (.done (.exit 0) E_ltoIntS_0_0 (((), (), (), (), (), (), (), (), (), (), (), (), (), (), (), (), (), (), (), (), (), (), ()), (h0, ()))))
noncomputable def T_ltoIntS_0 (x0 : List Int) (x4 : Int) (h0 : List Int) : CT := (.br (decide (0 ≤ x4) && (decide (h0.length = x0.length) && okL x0)) (.done (.exit 0) E_ltoIntS_0_0 (((), (), (), (), (), (), (), (), (), (), (), (), (), (), (), (), (), (), (), (), (), (), ()), ((foldN (fun i h => h.set i (f_ltoIntS_0 x0 i)) (x0.length - x4.toNat) x4.toNat h0), ()))) .fail)
noncomputable abbrev sp_ltoIntS_0 : S_ltoIntS_0.den → RT S_ltoIntS_0.den := fun d => st_ltoIntS_0 d.1.1 d.1.2.2.2.2.1 d.2.1
noncomputable abbrev pk_ltoIntS_0 (x0 : List Int) (x4 : Int) (h0 : List Int) : S_ltoIntS_0.den := ((x0, (), (), (), x4, (), (), (), (), (), (), (), (), (), (), (), (), (), (), (), (), (), ()), (h0, ()))
noncomputable def body_ltoIntS_0 : Code := ((loopsIn 0 (bodyOf Try.f112)).getD 0 (0, .skip)).2
theorem R_ltoIntS_0 (x0 : List Int) (x4 : Int) (h0 : List Int) : (T_ltoIntS_0 x0 x4 h0).val (D := S_ltoIntS_0.den) = .fail ∨ Runs sp_ltoIntS_0 (pk_ltoIntS_0 x0 x4 h0) (T_ltoIntS_0 x0 x4 h0).val := by
  cases hc : (decide (0 ≤ x4) && (decide (h0.length = x0.length) && okL x0)) with
  | false => left; simp only [T_ltoIntS_0, CT.val, hc, cond_false]
  | true =>
    right
    simp only [T_ltoIntS_0, CT.val, hc, cond_true]
    simp only [Bool.and_eq_true, decide_eq_true_eq] at hc
    obtain ⟨i, rfl⟩ := Int.eq_ofNat_of_zero_le hc.1
    have hs := okL_le hc.2.2
    simp only [Int.toNat_natCast]
    refine Runs.foldN (step := sp_ltoIntS_0) (fun j b => pk_ltoIntS_0 x0 (j : Int) b) (fun _ b => b.length = x0.length) (x0.length) (fun i h => h.set i (f_ltoIntS_0 x0 i))
      (fin := fun b => ((.done (.exit 0) E_ltoIntS_0_0 (((), (), (), (), (), (), (), (), (), (), (), (), (), (), (), (), (), (), (), (), (), (), ()), (b, ()))) : CT).val) (fun i b hi hb => ⟨by simpa using hb, ?_⟩) (fun i b hi hb => ?_) (x0.length - i) i h0 rfl hc.2.1
    · 
      have h0a : decide ((i : Int) < ((x0.length : Nat) : Int)) = true := decide_eq_true (by omega)
      have h0b : decide (0 ≤ (i : Int) ∧ (i : Int) < ((x0.length : Nat) : Int)) = true := decide_eq_true (by omega)
      have h9 : decide (0 ≤ (i : Int) ∧ (i : Int) < ((b.length : Nat) : Int)) = true := decide_eq_true (by omega)
      simp only [sp_ltoIntS_0, st_ltoIntS_0, RT.val, h0a, h0b, h9, cond_true, wrapS i (by omega), Int.toNat_natCast]
      rfl
    · have h1 : decide ((i : Int) < ((x0.length : Nat) : Int)) = false := decide_eq_false (by omega)
      exact ⟨by simp only [sp_ltoIntS_0, st_ltoIntS_0, RT.val, h1, cond_false]; rfl, _, _, _, rfl, by simp⟩
theorem rd_ltoIntS_0 : ∀ d, execC Try.prog tt S20 QF20 (fun _ _ => none) 0 body_ltoIntS_0 (S_ltoIntS_0.st d 0 []) (fun e s' => some (e, S_ltoIntS_0.cutE (kepts [] [(0, [3])]) e s')) = (sp_ltoIntS_0 d).opt 0 [] := by
  intro d
  kernel_rfl
noncomputable abbrev say_ltoIntS_0 : St → Option Tree := S_ltoIntS_0.say 0 [] [] (fun d => T_ltoIntS_0 d.1.1 d.1.2.2.2.2.1 d.2.1)
theorem lw_ltoIntS_0 : LoopWp Try.prog say_ltoIntS_0 body_ltoIntS_0 := SS.wp G20 (fun _ _ => none) (by rw [show loopsIn 0 body_ltoIntS_0 = [] by kernel_rfl]; simp) S_ltoIntS_0 0 [] (kepts [] [(0, [3])]) [] sp_ltoIntS_0 rd_ltoIntS_0 _ (fun d => R_ltoIntS_0 d.1.1 d.1.2.2.2.2.1 d.2.1)
noncomputable def ltoIntS (a0 : List Int) : List Int := (foldN (fun i h => h.set i (f_ltoIntS_0 a0 i)) (a0.length - (0 : Int).toNat) (0 : Int).toNat (List.replicate ((a0.length : Nat) : Int).toNat (0 : Int)))
noncomputable abbrev e_ltoIntS (r : List Int) : AV × List AObj := ((.t true (.sl (.int .i64)) r), [])
noncomputable abbrev g_ltoIntS : pshsDen P_ltoIntS → AV × List AObj := fun d => e_ltoIntS (ltoIntS d.1)
noncomputable def q_ltoIntS (a0 : List Int) : Bool := okL a0
noncomputable abbrev pre_ltoIntS : pshsDen P_ltoIntS → Bool := fun d => q_ltoIntS d.1
theorem runA_ltoIntS (a0 : List Int) (hp : (okL a0) = true) : runP true Try.prog tt S20 QF20 (fun b => match b with | 0 => say_ltoIntS_0 | _ => fun _ => none) Try.f112 (argsMk P_ltoIntS (a0, ())) = some (g_ltoIntS (a0, ())) := by
  refine Eq.trans (b := (cond (decide (0 ≤ ((a0.length : Nat) : Int) ∧ ((a0.length : Nat) : Int) = ((a0.length : Nat) : Int) ∧ ((a0.length : Nat) : Int).toNat * 8 ≤ MAXB ∧ ((a0.length : Nat) : Int) ≤ 9223372036854775807)) (cond (decide (0 ≤ (0 : Int)) && (decide ((List.replicate ((a0.length : Nat) : Int).toNat (0 : Int)).length = a0.length) && okL a0)) (some (e_ltoIntS (foldN (fun i h => h.set i (f_ltoIntS_0 a0 i)) (a0.length - (0 : Int).toNat) (0 : Int).toNat (List.replicate ((a0.length : Nat) : Int).toNat (0 : Int))))) none) none)) (by kernel_rfl) ?_
  exact (cndT (by first | rfl | decide | exact hp | (simp only [Bool.and_eq_true] at hp; simp only [hp]; done) | (simp [*]; done) | (simp [okL] at hp; simp [okL, MAXB]; omega) | (simp_all; done) | (simp at *; omega)) (fun _h => (cndT (by first | rfl | decide | exact hp | (simp only [Bool.and_eq_true] at hp; simp only [hp]; done) | (simp [*]; done) | (simp [okL] at hp; simp [okL, MAXB]; omega) | (simp_all; done) | (simp at *; omega)) (fun _h => rfl))))
theorem run_ltoIntS : ∀ d, pre_ltoIntS d = true → runP true Try.prog tt S20 QF20 (fun b => match b with | 0 => say_ltoIntS_0 | _ => fun _ => none) Try.f112 (argsMk P_ltoIntS d) = some (g_ltoIntS d) := fun d hp => runA_ltoIntS d.1 hp
theorem c_ltoIntS : PContract Try.prog 112 (sumOf P_ltoIntS pre_ltoIntS g_ltoIntS) := PContract.of_data true G20 (fn := Try.f112) (by kernel_rfl) (L := fun b => match b with | 0 => say_ltoIntS_0 | _ => fun _ => none) (by rw [show loopsIn 0 (bodyOf Try.f112) = [(0, body_ltoIntS_0)] by kernel_rfl]; intro p hp; simp only [List.mem_singleton] at hp; subst hp; exact lw_ltoIntS_0) P_ltoIntS pre_ltoIntS g_ltoIntS run_ltoIntS
noncomputable def S21 : Tab := Tab.add S20 112 (lift (sumOf P_ltoIntS pre_ltoIntS g_ltoIntS))
noncomputable def QF21 : FuncId → Bool := qadd QF20 112
theorem G21 : Good Try.prog tt S21 QF21 := G20.addQ c_ltoIntS ⟨Try.f112, by kernel_rfl, by kernel_rfl, by kernel_rfl⟩ (fun _ => rfl)

/-! 97 loop.example/g00244/laws.toJob -/
noncomputable abbrev P_ltoJob : List PSh := [.agg [(.int .i64), (.sl (.pair (.int .i64) (.pair .str .str))), (.int .i64), (.sl (.int .i64))]]
noncomputable def ltoJob (a0 : Int) (a1 : List (Int × ByteArray × ByteArray)) (a2 : Int) (a3 : List Int) : Int × (List (Int × ByteArray × ByteArray)) × Int × List Int := (a0, (ltoOpS a1), a2, (ltoIntS a3))
noncomputable abbrev e_ltoJob (r : Int × (List (Int × ByteArray × ByteArray)) × Int × List Int) : AV × List AObj := ((.agg [(.t true (.int .i64) r.1), (.t true (.sl (.pair (.int .i64) (.pair .str .str))) r.2.1), (.t true (.int .i64) r.2.2.1), (.t true (.sl (.int .i64)) r.2.2.2)]), [])
noncomputable abbrev g_ltoJob : pshsDen P_ltoJob → AV × List AObj := fun d => e_ltoJob (ltoJob d.1.1 d.1.2.1 d.1.2.2.1 d.1.2.2.2.1)
noncomputable def q_ltoJob (a0 : Int) (a1 : List (Int × ByteArray × ByteArray)) (a2 : Int) (a3 : List Int) : Bool := (q_ltoOpS a1) && (q_ltoIntS a3)
noncomputable abbrev pre_ltoJob : pshsDen P_ltoJob → Bool := fun d => q_ltoJob d.1.1 d.1.2.1 d.1.2.2.1 d.1.2.2.2.1
theorem runA_ltoJob (a0 : Int) (a1 : List (Int × ByteArray × ByteArray)) (a2 : Int) (a3 : List Int) (hp : ((q_ltoOpS a1) && (q_ltoIntS a3)) = true) : runP true Try.prog tt S21 QF21 (fun _ _ => none) Try.f97 (argsMk P_ltoJob ((a0, (a1, (a2, (a3, ())))), ())) = some (g_ltoJob ((a0, (a1, (a2, (a3, ())))), ())) := by
  refine Eq.trans (b := (cond (q_ltoOpS a1) (cond (q_ltoIntS a3) (some (e_ltoJob (a0, (ltoOpS a1), a2, (ltoIntS a3)))) none) none)) (by kernel_rfl) ?_
  exact (cndT (andL hp) (fun _h => (fun hp => (cndT hp (fun _h => rfl))) (andR hp)))
theorem run_ltoJob : ∀ d, pre_ltoJob d = true → runP true Try.prog tt S21 QF21 (fun _ _ => none) Try.f97 (argsMk P_ltoJob d) = some (g_ltoJob d) := fun d hp => runA_ltoJob d.1.1 d.1.2.1 d.1.2.2.1 d.1.2.2.2.1 hp
theorem c_ltoJob : PContract Try.prog 97 (sumOf P_ltoJob pre_ltoJob g_ltoJob) := PContract.of_data true G21 (fn := Try.f97) (by kernel_rfl) (L := fun _ _ => none) (by rw [show loopsIn 0 (bodyOf Try.f97) = [] by kernel_rfl]; simp) P_ltoJob pre_ltoJob g_ltoJob run_ltoJob
noncomputable def S22 : Tab := Tab.add S21 97 (lift (sumOf P_ltoJob pre_ltoJob g_ltoJob))
noncomputable def QF22 : FuncId → Bool := qadd QF21 97
theorem G22 : Good Try.prog tt S22 QF22 := G21.addQ c_ltoJob ⟨Try.f97, by kernel_rfl, by kernel_rfl, by kernel_rfl⟩ (fun _ => rfl)

/-! 76 loop.example/g00244/laws.toJobS -/
noncomputable abbrev P_ltoJobS : List PSh := [.t (.sl (.pair (.int .i64) (.pair (.sl (.pair (.int .i64) (.pair .str .str))) (.pair (.int .i64) (.sl (.int .i64))))))]
noncomputable abbrev S_ltoJobS_0 : SS := ⟨[.t false (.sl (.pair (.int .i64) (.pair (.sl (.pair (.int .i64) (.pair .str .str))) (.pair (.int .i64) (.sl (.int .i64)))))), .junk, .junk, .all 0 4, .t true (.int .i64), .junk, .junk, .junk, .junk, .junk, .junk, .junk, .junk, .junk, .junk, .junk, .junk, .junk, .junk, .junk, .junk, .junk, .junk], [.rows 124 true (.pair (.int .i64) (.pair (.sl (.pair (.int .i64) (.pair .str .str))) (.pair (.int .i64) (.sl (.int .i64)))))]⟩
noncomputable abbrev E_ltoJobS_0_0 : SS := ⟨[.junk, .junk, .junk, .all 0 4, .junk, .junk, .junk, .junk, .junk, .junk, .junk, .junk, .junk, .junk, .junk, .junk, .junk, .junk, .junk, .junk, .junk, .junk, .junk], [.rows 124 true (.pair (.int .i64) (.pair (.sl (.pair (.int .i64) (.pair .str .str))) (.pair (.int .i64) (.sl (.int .i64)))))]⟩
noncomputable def st_ltoJobS_0 (x0 : List (Int × (List (Int × ByteArray × ByteArray)) × Int × List Int)) (x4 : Int) (h0 : List (Int × (List (Int × ByteArray × ByteArray)) × Int × List Int)) : RT S_ltoJobS_0.den := (.br (decide (x4 < ((x0.length : Nat) : Int))) (.br (decide (0 ≤ x4 ∧ x4 < ((x0.length : Nat) : Int))) (.br (q_ltoJob ((x0.getD x4.toNat ((0 : Int), ([], ((0 : Int), [])))).1) (((x0.getD x4.toNat ((0 : Int), ([], ((0 : Int), [])))).2).1) ((((x0.getD x4.toNat ((0 : Int), ([], ((0 : Int), [])))).2).2).1) ((((x0.getD x4.toNat ((0 : Int), ([], ((0 : Int), [])))).2).2).2)) (.br (decide (0 ≤ x4 ∧ x4 < ((h0.length : Nat) : Int))) (.next ((x0, (), (), (), IntKind.wrap .i64 (x4 + (1 : Int)), (), (), (), (), (), (), (), (), (), (), (), (), (), (), (), (), (), (), ()), (h0.set x4.toNat (((ltoJob ((x0.getD x4.toNat ((0 : Int), ([], ((0 : Int), [])))).1) (((x0.getD x4.toNat ((0 : Int), ([], ((0 : Int), [])))).2).1) ((((x0.getD x4.toNat ((0 : Int), ([], ((0 : Int), [])))).2).2).1) ((((x0.getD x4.toNat ((0 : Int), ([], ((0 : Int), [])))).2).2).2)).1), (((ltoJob ((x0.getD x4.toNat ((0 : Int), ([], ((0 : Int), [])))).1) (((x0.getD x4.toNat ((0 : Int), ([], ((0 : Int), [])))).2).1) ((((x0.getD x4.toNat ((0 : Int), ([], ((0 : Int), [])))).2).2).1) ((((x0.getD x4.toNat ((0 : Int), ([], ((0 : Int), [])))).2).2).2)).2.1), (((ltoJob ((x0.getD x4.toNat ((0 : Int), ([], ((0 : Int), [])))).1) (((x0.getD x4.toNat ((0 : Int), ([], ((0 : Int), [])))).2).1) ((((x0.getD x4.toNat ((0 : Int), ([], ((0 : Int), [])))).2).2).1) ((((x0.getD x4.toNat ((0 : Int), ([], ((0 : Int), [])))).2).2).2)).2.2.1), ((ltoJob ((x0.getD x4.toNat ((0 : Int), ([], ((0 : Int), [])))).1) (((x0.getD x4.toNat ((0 : Int), ([], ((0 : Int), [])))).2).1) ((((x0.getD x4.toNat ((0 : Int), ([], ((0 : Int), [])))).2).2).1) ((((x0.getD x4.toNat ((0 : Int), ([], ((0 : Int), [])))).2).2).2)).2.2.2)))), ()))) .fail) .fail) .fail) (.done (.exit 0) E_ltoJobS_0_0 (((), (), (), (), (), (), (), (), (), (), (), (), (), (), (), (), (), (), (), (), (), (), (), ()), (h0, ()))))
noncomputable abbrev V_ltoJobS_0 := (List (Int × (List (Int × ByteArray × ByteArray)) × Int × List Int)) × (Int) × (List (Int × (List (Int × ByteArray × ByteArray)) × Int × List Int))
noncomputable abbrev A_ltoJobS_0 := Nat × (List (Int × (List (Int × ByteArray × ByteArray)) × Int × List Int))
noncomputable def fl_ltoJobS_0 : A_ltoJobS_0 := (99, ([] : List (Int × (List (Int × ByteArray × ByteArray)) × Int × List Int)))
noncomputable def ss_ltoJobS_0 (x0 : List (Int × (List (Int × ByteArray × ByteArray)) × Int × List Int)) (x4 : Int) (h0 : List (Int × (List (Int × ByteArray × ByteArray)) × Int × List Int)) : V_ltoJobS_0 ⊕ A_ltoJobS_0 := (cond (decide (x4 < ((x0.length : Nat) : Int))) (cond (decide (0 ≤ x4 ∧ x4 < ((x0.length : Nat) : Int))) (cond (q_ltoJob ((x0.getD x4.toNat ((0 : Int), ([], ((0 : Int), [])))).1) (((x0.getD x4.toNat ((0 : Int), ([], ((0 : Int), [])))).2).1) ((((x0.getD x4.toNat ((0 : Int), ([], ((0 : Int), [])))).2).2).1) ((((x0.getD x4.toNat ((0 : Int), ([], ((0 : Int), [])))).2).2).2)) (cond (decide (0 ≤ x4 ∧ x4 < ((h0.length : Nat) : Int))) (.inl (x0, IntKind.wrap .i64 (x4 + (1 : Int)), h0.set x4.toNat (((ltoJob ((x0.getD x4.toNat ((0 : Int), ([], ((0 : Int), [])))).1) (((x0.getD x4.toNat ((0 : Int), ([], ((0 : Int), [])))).2).1) ((((x0.getD x4.toNat ((0 : Int), ([], ((0 : Int), [])))).2).2).1) ((((x0.getD x4.toNat ((0 : Int), ([], ((0 : Int), [])))).2).2).2)).1), (((ltoJob ((x0.getD x4.toNat ((0 : Int), ([], ((0 : Int), [])))).1) (((x0.getD x4.toNat ((0 : Int), ([], ((0 : Int), [])))).2).1) ((((x0.getD x4.toNat ((0 : Int), ([], ((0 : Int), [])))).2).2).1) ((((x0.getD x4.toNat ((0 : Int), ([], ((0 : Int), [])))).2).2).2)).2.1), (((ltoJob ((x0.getD x4.toNat ((0 : Int), ([], ((0 : Int), [])))).1) (((x0.getD x4.toNat ((0 : Int), ([], ((0 : Int), [])))).2).1) ((((x0.getD x4.toNat ((0 : Int), ([], ((0 : Int), [])))).2).2).1) ((((x0.getD x4.toNat ((0 : Int), ([], ((0 : Int), [])))).2).2).2)).2.2.1), ((ltoJob ((x0.getD x4.toNat ((0 : Int), ([], ((0 : Int), [])))).1) (((x0.getD x4.toNat ((0 : Int), ([], ((0 : Int), [])))).2).1) ((((x0.getD x4.toNat ((0 : Int), ([], ((0 : Int), [])))).2).2).1) ((((x0.getD x4.toNat ((0 : Int), ([], ((0 : Int), [])))).2).2).2)).2.2.2)))))) (.inr fl_ltoJobS_0)) (.inr fl_ltoJobS_0)) (.inr fl_ltoJobS_0)) (.inr (0, h0)))
noncomputable def it_ltoJobS_0 (x0 : List (Int × (List (Int × ByteArray × ByteArray)) × Int × List Int)) (x4 : Int) (h0 : List (Int × (List (Int × ByteArray × ByteArray)) × Int × List Int)) : A_ltoJobS_0 := itX (fun v : V_ltoJobS_0 => ss_ltoJobS_0 v.1 v.2.1 v.2.2) fl_ltoJobS_0 (x0, x4, h0)
noncomputable def ct_ltoJobS_0 (a : A_ltoJobS_0) : CT := (.br (a.1 == 0) (.done (.exit 0) E_ltoJobS_0_0 (((), (), (), (), (), (), (), (), (), (), (), (), (), (), (), (), (), (), (), (), (), (), (), ()), (a.2, ()))) .fail)
noncomputable def T_ltoJobS_0 (x0 : List (Int × (List (Int × ByteArray × ByteArray)) × Int × List Int)) (x4 : Int) (h0 : List (Int × (List (Int × ByteArray × ByteArray)) × Int × List Int)) : CT := ct_ltoJobS_0 (it_ltoJobS_0 x0 x4 h0)
noncomputable abbrev sp_ltoJobS_0 : S_ltoJobS_0.den → RT S_ltoJobS_0.den := fun d => st_ltoJobS_0 d.1.1 d.1.2.2.2.2.1 d.2.1
noncomputable abbrev pk_ltoJobS_0 (x0 : List (Int × (List (Int × ByteArray × ByteArray)) × Int × List Int)) (x4 : Int) (h0 : List (Int × (List (Int × ByteArray × ByteArray)) × Int × List Int)) : S_ltoJobS_0.den := ((x0, (), (), (), x4, (), (), (), (), (), (), (), (), (), (), (), (), (), (), (), (), (), (), ()), (h0, ()))
noncomputable def body_ltoJobS_0 : Code := ((loopsIn 0 (bodyOf Try.f76)).getD 0 (0, .skip)).2
theorem R_ltoJobS_0 (x0 : List (Int × (List (Int × ByteArray × ByteArray)) × Int × List Int)) (x4 : Int) (h0 : List (Int × (List (Int × ByteArray × ByteArray)) × Int × List Int)) : (T_ltoJobS_0 x0 x4 h0).val (D := S_ltoJobS_0.den) = .fail ∨ Runs sp_ltoJobS_0 (pk_ltoJobS_0 x0 x4 h0) (T_ltoJobS_0 x0 x4 h0).val := Runs.ofIt (step := sp_ltoJobS_0) (fun v : V_ltoJobS_0 => pk_ltoJobS_0 v.1 v.2.1 v.2.2) (ct := ct_ltoJobS_0) rfl (fun v => ((relB (relB (relB (relB rfl rfl) rfl) rfl) rfl) : (st_ltoJobS_0 v.1 v.2.1 v.2.2).val = relS (fun v : V_ltoJobS_0 => pk_ltoJobS_0 v.1 v.2.1 v.2.2) ct_ltoJobS_0 (ss_ltoJobS_0 v.1 v.2.1 v.2.2))) (fun a => ((cendB (cendD (by simp)) cendF) : CEnd _ (ct_ltoJobS_0 a))) (x0, x4, h0)
theorem rd_ltoJobS_0 : ∀ d, execC Try.prog tt S22 QF22 (fun _ _ => none) 0 body_ltoJobS_0 (S_ltoJobS_0.st d 0 []) (fun e s' => some (e, S_ltoJobS_0.cutE (kepts [] [(0, [3])]) e s')) = (sp_ltoJobS_0 d).opt 0 [] := by
  intro d
  kernel_rfl
noncomputable abbrev say_ltoJobS_0 : St → Option Tree := S_ltoJobS_0.say 0 [] [] (fun d => T_ltoJobS_0 d.1.1 d.1.2.2.2.2.1 d.2.1)
theorem lw_ltoJobS_0 : LoopWp Try.prog say_ltoJobS_0 body_ltoJobS_0 := SS.wp G22 (fun _ _ => none) (by rw [show loopsIn 0 body_ltoJobS_0 = [] by kernel_rfl]; simp) S_ltoJobS_0 0 [] (kepts [] [(0, [3])]) [] sp_ltoJobS_0 rd_ltoJobS_0 _ (fun d => R_ltoJobS_0 d.1.1 d.1.2.2.2.2.1 d.2.1)
noncomputable def ltoJobS (a0 : List (Int × (List (Int × ByteArray × ByteArray)) × Int × List Int)) : List (Int × (List (Int × ByteArray × ByteArray)) × Int × List Int) := ((it_ltoJobS_0 a0 (0 : Int) (List.replicate ((a0.length : Nat) : Int).toNat ((0 : Int), ([], ((0 : Int), []))))).2)
noncomputable abbrev e_ltoJobS (r : List (Int × (List (Int × ByteArray × ByteArray)) × Int × List Int)) : AV × List AObj := ((.t true (.sl (.pair (.int .i64) (.pair (.sl (.pair (.int .i64) (.pair .str .str))) (.pair (.int .i64) (.sl (.int .i64)))))) r), [])
noncomputable abbrev g_ltoJobS : pshsDen P_ltoJobS → AV × List AObj := fun d => e_ltoJobS (ltoJobS d.1)
noncomputable def q_ltoJobS (a0 : List (Int × (List (Int × ByteArray × ByteArray)) × Int × List Int)) : Bool := (decide (0 ≤ ((a0.length : Nat) : Int) ∧ ((a0.length : Nat) : Int) = ((a0.length : Nat) : Int) ∧ ((a0.length : Nat) : Int).toNat * 64 ≤ MAXB ∧ ((a0.length : Nat) : Int) ≤ 9223372036854775807)) && ((it_ltoJobS_0 a0 (0 : Int) (List.replicate ((a0.length : Nat) : Int).toNat ((0 : Int), ([], ((0 : Int), []))))).1 == 0)
noncomputable abbrev pre_ltoJobS : pshsDen P_ltoJobS → Bool := fun d => q_ltoJobS d.1
theorem runA_ltoJobS (a0 : List (Int × (List (Int × ByteArray × ByteArray)) × Int × List Int)) (hp : ((decide (0 ≤ ((a0.length : Nat) : Int) ∧ ((a0.length : Nat) : Int) = ((a0.length : Nat) : Int) ∧ ((a0.length : Nat) : Int).toNat * 64 ≤ MAXB ∧ ((a0.length : Nat) : Int) ≤ 9223372036854775807)) && ((it_ltoJobS_0 a0 (0 : Int) (List.replicate ((a0.length : Nat) : Int).toNat ((0 : Int), ([], ((0 : Int), []))))).1 == 0)) = true) : runP true Try.prog tt S22 QF22 (fun b => match b with | 0 => say_ltoJobS_0 | _ => fun _ => none) Try.f76 (argsMk P_ltoJobS (a0, ())) = some (g_ltoJobS (a0, ())) := by
  refine Eq.trans (b := (cond (decide (0 ≤ ((a0.length : Nat) : Int) ∧ ((a0.length : Nat) : Int) = ((a0.length : Nat) : Int) ∧ ((a0.length : Nat) : Int).toNat * 64 ≤ MAXB ∧ ((a0.length : Nat) : Int) ≤ 9223372036854775807)) (cond ((it_ltoJobS_0 a0 (0 : Int) (List.replicate ((a0.length : Nat) : Int).toNat ((0 : Int), ([], ((0 : Int), []))))).1 == 0) (some (e_ltoJobS ((it_ltoJobS_0 a0 (0 : Int) (List.replicate ((a0.length : Nat) : Int).toNat ((0 : Int), ([], ((0 : Int), []))))).2))) none) none)) (by kernel_rfl) ?_
  exact (cndT (andL hp) (fun _h => (fun hp => (cndT hp (fun _h => rfl))) (andR hp)))
theorem run_ltoJobS : ∀ d, pre_ltoJobS d = true → runP true Try.prog tt S22 QF22 (fun b => match b with | 0 => say_ltoJobS_0 | _ => fun _ => none) Try.f76 (argsMk P_ltoJobS d) = some (g_ltoJobS d) := fun d hp => runA_ltoJobS d.1 hp
theorem c_ltoJobS : PContract Try.prog 76 (sumOf P_ltoJobS pre_ltoJobS g_ltoJobS) := PContract.of_data true G22 (fn := Try.f76) (by kernel_rfl) (L := fun b => match b with | 0 => say_ltoJobS_0 | _ => fun _ => none) (by rw [show loopsIn 0 (bodyOf Try.f76) = [(0, body_ltoJobS_0)] by kernel_rfl]; intro p hp; simp only [List.mem_singleton] at hp; subst hp; exact lw_ltoJobS_0) P_ltoJobS pre_ltoJobS g_ltoJobS run_ltoJobS
noncomputable def S23 : Tab := Tab.add S22 76 (lift (sumOf P_ltoJobS pre_ltoJobS g_ltoJobS))
noncomputable def QF23 : FuncId → Bool := qadd QF22 76
theorem G23 : Good Try.prog tt S23 QF23 := G22.addQ c_ltoJobS ⟨Try.f76, by kernel_rfl, by kernel_rfl, by kernel_rfl⟩ (fun _ => rfl)

/-! 98 loop.example/g00244/laws.toChoice -/
noncomputable abbrev P_ltoChoice : List PSh := [.agg [(.int .i64), .bool]]
noncomputable def ltoChoice (a0 : Int) (a1 : Bool) : Int × Bool := (a0, a1)
noncomputable abbrev e_ltoChoice (r : Int × Bool) : AV × List AObj := ((.agg [(.t true (.int .i64) r.1), (.t true .bool r.2)]), [])
noncomputable abbrev g_ltoChoice : pshsDen P_ltoChoice → AV × List AObj := fun d => e_ltoChoice (ltoChoice d.1.1 d.1.2.1)
noncomputable abbrev pre_ltoChoice : pshsDen P_ltoChoice → Bool := fun d => true
theorem runA_ltoChoice (a0 : Int) (a1 : Bool) : runP true Try.prog tt S23 QF23 (fun _ _ => none) Try.f98 (argsMk P_ltoChoice ((a0, (a1, ())), ())) = some (g_ltoChoice ((a0, (a1, ())), ())) := by
  kernel_rfl
theorem run_ltoChoice : ∀ d, pre_ltoChoice d = true → runP true Try.prog tt S23 QF23 (fun _ _ => none) Try.f98 (argsMk P_ltoChoice d) = some (g_ltoChoice d) := fun d hp => runA_ltoChoice d.1.1 d.1.2.1
theorem c_ltoChoice : PContract Try.prog 98 (sumOf P_ltoChoice pre_ltoChoice g_ltoChoice) := PContract.of_data true G23 (fn := Try.f98) (by kernel_rfl) (L := fun _ _ => none) (by rw [show loopsIn 0 (bodyOf Try.f98) = [] by kernel_rfl]; simp) P_ltoChoice pre_ltoChoice g_ltoChoice run_ltoChoice
noncomputable def S24 : Tab := Tab.add S23 98 (lift (sumOf P_ltoChoice pre_ltoChoice g_ltoChoice))
noncomputable def QF24 : FuncId → Bool := qadd QF23 98
theorem G24 : Good Try.prog tt S24 QF24 := G23.addQ c_ltoChoice ⟨Try.f98, by kernel_rfl, by kernel_rfl, by kernel_rfl⟩ (fun _ => rfl)

/-! 77 loop.example/g00244/laws.toChoiceS -/
noncomputable def f_ltoChoiceS_0 (x0 : List (Int × Bool)) (i : Nat) : Int × Bool := (((ltoChoice ((x0.getD i ((0 : Int), false)).1) ((x0.getD i ((0 : Int), false)).2)).1), ((ltoChoice ((x0.getD i ((0 : Int), false)).1) ((x0.getD i ((0 : Int), false)).2)).2))
noncomputable abbrev P_ltoChoiceS : List PSh := [.t (.sl (.pair (.int .i64) .bool))]
noncomputable abbrev S_ltoChoiceS_0 : SS := ⟨[.t false (.sl (.pair (.int .i64) .bool)), .junk, .junk, .all 0 2, .t true (.int .i64), .junk, .junk, .junk, .junk, .junk, .junk, .junk, .junk, .junk, .junk, .junk, .junk, .junk, .junk, .junk, .junk, .junk, .junk], [.rows 111 true (.pair (.int .i64) .bool)]⟩
noncomputable abbrev E_ltoChoiceS_0_0 : SS := ⟨[.junk, .junk, .junk, .all 0 2, .junk, .junk, .junk, .junk, .junk, .junk, .junk, .junk, .junk, .junk, .junk, .junk, .junk, .junk, .junk, .junk, .junk, .junk, .junk], [.rows 111 true (.pair (.int .i64) .bool)]⟩
noncomputable def st_ltoChoiceS_0 (x0 : List (Int × Bool)) (x4 : Int) (h0 : List (Int × Bool)) : RT S_ltoChoiceS_0.den := (.br (decide (x4 < ((x0.length : Nat) : Int))) (.br (decide (0 ≤ x4 ∧ x4 < ((x0.length : Nat) : Int))) (.br (decide (0 ≤ x4 ∧ x4 < ((h0.length : Nat) : Int))) (.next ((x0, (), (), (), IntKind.wrap .i64 (x4 + (1 : Int)), (), (), (), (), (), (), (), (), (), (), (), (), (), (), (), (), (), (), ()), (h0.set x4.toNat (((ltoChoice ((x0.getD x4.toNat ((0 : Int), false)).1) ((x0.getD x4.toNat ((0 : Int), false)).2)).1), ((ltoChoice ((x0.getD x4.toNat ((0 : Int), false)).1) ((x0.getD x4.toNat ((0 : Int), false)).2)).2)), ()))) .fail) .fail) (.done (.exit 0) E_ltoChoiceS_0_0 (((), (), (), (), (), (), (), (), (), (), (), (), (), (), (), (), (), (), (), (), (), (), (), ()), (h0, ()))))
noncomputable def T_ltoChoiceS_0 (x0 : List (Int × Bool)) (x4 : Int) (h0 : List (Int × Bool)) : CT := (.br (decide (0 ≤ x4) && (decide (h0.length = x0.length) && okL x0)) (.done (.exit 0) E_ltoChoiceS_0_0 (((), (), (), (), (), (), (), (), (), (), (), (), (), (), (), (), (), (), (), (), (), (), (), ()), ((foldN (fun i h => h.set i (f_ltoChoiceS_0 x0 i)) (x0.length - x4.toNat) x4.toNat h0), ()))) .fail)
noncomputable abbrev sp_ltoChoiceS_0 : S_ltoChoiceS_0.den → RT S_ltoChoiceS_0.den := fun d => st_ltoChoiceS_0 d.1.1 d.1.2.2.2.2.1 d.2.1
noncomputable abbrev pk_ltoChoiceS_0 (x0 : List (Int × Bool)) (x4 : Int) (h0 : List (Int × Bool)) : S_ltoChoiceS_0.den := ((x0, (), (), (), x4, (), (), (), (), (), (), (), (), (), (), (), (), (), (), (), (), (), (), ()), (h0, ()))
noncomputable def body_ltoChoiceS_0 : Code := ((loopsIn 0 (bodyOf Try.f77)).getD 0 (0, .skip)).2
theorem R_ltoChoiceS_0 (x0 : List (Int × Bool)) (x4 : Int) (h0 : List (Int × Bool)) : (T_ltoChoiceS_0 x0 x4 h0).val (D := S_ltoChoiceS_0.den) = .fail ∨ Runs sp_ltoChoiceS_0 (pk_ltoChoiceS_0 x0 x4 h0) (T_ltoChoiceS_0 x0 x4 h0).val := by
  cases hc : (decide (0 ≤ x4) && (decide (h0.length = x0.length) && okL x0)) with
  | false => left; simp only [T_ltoChoiceS_0, CT.val, hc, cond_false]
  | true =>
    right
    simp only [T_ltoChoiceS_0, CT.val, hc, cond_true]
    simp only [Bool.and_eq_true, decide_eq_true_eq] at hc
    obtain ⟨i, rfl⟩ := Int.eq_ofNat_of_zero_le hc.1
    have hs := okL_le hc.2.2
    simp only [Int.toNat_natCast]
    refine Runs.foldN (step := sp_ltoChoiceS_0) (fun j b => pk_ltoChoiceS_0 x0 (j : Int) b) (fun _ b => b.length = x0.length) (x0.length) (fun i h => h.set i (f_ltoChoiceS_0 x0 i))
      (fin := fun b => ((.done (.exit 0) E_ltoChoiceS_0_0 (((), (), (), (), (), (), (), (), (), (), (), (), (), (), (), (), (), (), (), (), (), (), (), ()), (b, ()))) : CT).val) (fun i b hi hb => ⟨by simpa using hb, ?_⟩) (fun i b hi hb => ?_) (x0.length - i) i h0 rfl hc.2.1
    · 
      have h0a : decide ((i : Int) < ((x0.length : Nat) : Int)) = true := decide_eq_true (by omega)
      have h0b : decide (0 ≤ (i : Int) ∧ (i : Int) < ((x0.length : Nat) : Int)) = true := decide_eq_true (by omega)
      have h9 : decide (0 ≤ (i : Int) ∧ (i : Int) < ((b.length : Nat) : Int)) = true := decide_eq_true (by omega)
      simp only [sp_ltoChoiceS_0, st_ltoChoiceS_0, RT.val, h0a, h0b, h9, cond_true, wrapS i (by omega), Int.toNat_natCast]
      rfl
    · have h1 : decide ((i : Int) < ((x0.length : Nat) : Int)) = false := decide_eq_false (by omega)
      exact ⟨by simp only [sp_ltoChoiceS_0, st_ltoChoiceS_0, RT.val, h1, cond_false]; rfl, _, _, _, rfl, by simp⟩
theorem rd_ltoChoiceS_0 : ∀ d, execC Try.prog tt S24 QF24 (fun _ _ => none) 0 body_ltoChoiceS_0 (S_ltoChoiceS_0.st d 0 []) (fun e s' => some (e, S_ltoChoiceS_0.cutE (kepts [] [(0, [3])]) e s')) = (sp_ltoChoiceS_0 d).opt 0 [] := by
  intro d
  kernel_rfl
noncomputable abbrev say_ltoChoiceS_0 : St → Option Tree := S_ltoChoiceS_0.say 0 [] [] (fun d => T_ltoChoiceS_0 d.1.1 d.1.2.2.2.2.1 d.2.1)
theorem lw_ltoChoiceS_0 : LoopWp Try.prog say_ltoChoiceS_0 body_ltoChoiceS_0 := SS.wp G24 (fun _ _ => none) (by rw [show loopsIn 0 body_ltoChoiceS_0 = [] by kernel_rfl]; simp) S_ltoChoiceS_0 0 [] (kepts [] [(0, [3])]) [] sp_ltoChoiceS_0 rd_ltoChoiceS_0 _ (fun d => R_ltoChoiceS_0 d.1.1 d.1.2.2.2.2.1 d.2.1)
noncomputable def ltoChoiceS (a0 : List (Int × Bool)) : List (Int × Bool) := (foldN (fun i h => h.set i (f_ltoChoiceS_0 a0 i)) (a0.length - (0 : Int).toNat) (0 : Int).toNat (List.replicate ((a0.length : Nat) : Int).toNat ((0 : Int), false)))
noncomputable abbrev e_ltoChoiceS (r : List (Int × Bool)) : AV × List AObj := ((.t true (.sl (.pair (.int .i64) .bool)) r), [])
noncomputable abbrev g_ltoChoiceS : pshsDen P_ltoChoiceS → AV × List AObj := fun d => e_ltoChoiceS (ltoChoiceS d.1)
noncomputable def q_ltoChoiceS (a0 : List (Int × Bool)) : Bool := okL a0
noncomputable abbrev pre_ltoChoiceS : pshsDen P_ltoChoiceS → Bool := fun d => q_ltoChoiceS d.1
theorem runA_ltoChoiceS (a0 : List (Int × Bool)) (hp : (okL a0) = true) : runP true Try.prog tt S24 QF24 (fun b => match b with | 0 => say_ltoChoiceS_0 | _ => fun _ => none) Try.f77 (argsMk P_ltoChoiceS (a0, ())) = some (g_ltoChoiceS (a0, ())) := by
  refine Eq.trans (b := (cond (decide (0 ≤ ((a0.length : Nat) : Int) ∧ ((a0.length : Nat) : Int) = ((a0.length : Nat) : Int) ∧ ((a0.length : Nat) : Int).toNat * 16 ≤ MAXB ∧ ((a0.length : Nat) : Int) ≤ 9223372036854775807)) (cond (decide (0 ≤ (0 : Int)) && (decide ((List.replicate ((a0.length : Nat) : Int).toNat ((0 : Int), false)).length = a0.length) && okL a0)) (some (e_ltoChoiceS (foldN (fun i h => h.set i (f_ltoChoiceS_0 a0 i)) (a0.length - (0 : Int).toNat) (0 : Int).toNat (List.replicate ((a0.length : Nat) : Int).toNat ((0 : Int), false))))) none) none)) (by kernel_rfl) ?_
  exact (cndT (by first | rfl | decide | exact hp | (simp only [Bool.and_eq_true] at hp; simp only [hp]; done) | (simp [*]; done) | (simp [okL] at hp; simp [okL, MAXB]; omega) | (simp_all; done) | (simp at *; omega)) (fun _h => (cndT (by first | rfl | decide | exact hp | (simp only [Bool.and_eq_true] at hp; simp only [hp]; done) | (simp [*]; done) | (simp [okL] at hp; simp [okL, MAXB]; omega) | (simp_all; done) | (simp at *; omega)) (fun _h => rfl))))
theorem run_ltoChoiceS : ∀ d, pre_ltoChoiceS d = true → runP true Try.prog tt S24 QF24 (fun b => match b with | 0 => say_ltoChoiceS_0 | _ => fun _ => none) Try.f77 (argsMk P_ltoChoiceS d) = some (g_ltoChoiceS d) := fun d hp => runA_ltoChoiceS d.1 hp
theorem c_ltoChoiceS : PContract Try.prog 77 (sumOf P_ltoChoiceS pre_ltoChoiceS g_ltoChoiceS) := PContract.of_data true G24 (fn := Try.f77) (by kernel_rfl) (L := fun b => match b with | 0 => say_ltoChoiceS_0 | _ => fun _ => none) (by rw [show loopsIn 0 (bodyOf Try.f77) = [(0, body_ltoChoiceS_0)] by kernel_rfl]; intro p hp; simp only [List.mem_singleton] at hp; subst hp; exact lw_ltoChoiceS_0) P_ltoChoiceS pre_ltoChoiceS g_ltoChoiceS run_ltoChoiceS
noncomputable def S25 : Tab := Tab.add S24 77 (lift (sumOf P_ltoChoiceS pre_ltoChoiceS g_ltoChoiceS))
noncomputable def QF25 : FuncId → Bool := qadd QF24 77
theorem G25 : Good Try.prog tt S25 QF25 := G24.addQ c_ltoChoiceS ⟨Try.f77, by kernel_rfl, by kernel_rfl, by kernel_rfl⟩ (fun _ => rfl)

/-! 43 loop.example/g00244/laws.toCoord -/
noncomputable abbrev P_ltoCoord : List PSh := [.agg [(.int .i64), (.int .i64), (.int .i64), (.sl (.pair (.int .i64) (.pair (.sl (.pair (.int .i64) (.pair .str .str))) (.pair (.int .i64) (.sl (.int .i64)))))), (.sl (.pair (.int .i64) .bool)), (.int .i64)]]
noncomputable def ltoCoord (a0 : Int) (a1 : Int) (a2 : Int) (a3 : List (Int × (List (Int × ByteArray × ByteArray)) × Int × List Int)) (a4 : List (Int × Bool)) (a5 : Int) : Int × Int × Int × (List (Int × (List (Int × ByteArray × ByteArray)) × Int × List Int)) × (List (Int × Bool)) × Int := (a0, a1, a2, (ltoJobS a3), (ltoChoiceS a4), a5)
noncomputable abbrev e_ltoCoord (r : Int × Int × Int × (List (Int × (List (Int × ByteArray × ByteArray)) × Int × List Int)) × (List (Int × Bool)) × Int) : AV × List AObj := ((.agg [(.t true (.int .i64) r.1), (.t true (.int .i64) r.2.1), (.t true (.int .i64) r.2.2.1), (.t true (.sl (.pair (.int .i64) (.pair (.sl (.pair (.int .i64) (.pair .str .str))) (.pair (.int .i64) (.sl (.int .i64)))))) r.2.2.2.1), (.t true (.sl (.pair (.int .i64) .bool)) r.2.2.2.2.1), (.t true (.int .i64) r.2.2.2.2.2)]), [])
noncomputable abbrev g_ltoCoord : pshsDen P_ltoCoord → AV × List AObj := fun d => e_ltoCoord (ltoCoord d.1.1 d.1.2.1 d.1.2.2.1 d.1.2.2.2.1 d.1.2.2.2.2.1 d.1.2.2.2.2.2.1)
noncomputable def q_ltoCoord (a0 : Int) (a1 : Int) (a2 : Int) (a3 : List (Int × (List (Int × ByteArray × ByteArray)) × Int × List Int)) (a4 : List (Int × Bool)) (a5 : Int) : Bool := (q_ltoJobS a3) && (q_ltoChoiceS a4)
noncomputable abbrev pre_ltoCoord : pshsDen P_ltoCoord → Bool := fun d => q_ltoCoord d.1.1 d.1.2.1 d.1.2.2.1 d.1.2.2.2.1 d.1.2.2.2.2.1 d.1.2.2.2.2.2.1
theorem runA_ltoCoord (a0 : Int) (a1 : Int) (a2 : Int) (a3 : List (Int × (List (Int × ByteArray × ByteArray)) × Int × List Int)) (a4 : List (Int × Bool)) (a5 : Int) (hp : ((q_ltoJobS a3) && (q_ltoChoiceS a4)) = true) : runP true Try.prog tt S25 QF25 (fun _ _ => none) Try.f43 (argsMk P_ltoCoord ((a0, (a1, (a2, (a3, (a4, (a5, ())))))), ())) = some (g_ltoCoord ((a0, (a1, (a2, (a3, (a4, (a5, ())))))), ())) := by
  refine Eq.trans (b := (cond (q_ltoJobS a3) (cond (q_ltoChoiceS a4) (some (e_ltoCoord (a0, a1, a2, (ltoJobS a3), (ltoChoiceS a4), a5))) none) none)) (by kernel_rfl) ?_
  exact (cndT (andL hp) (fun _h => (fun hp => (cndT hp (fun _h => rfl))) (andR hp)))
theorem run_ltoCoord : ∀ d, pre_ltoCoord d = true → runP true Try.prog tt S25 QF25 (fun _ _ => none) Try.f43 (argsMk P_ltoCoord d) = some (g_ltoCoord d) := fun d hp => runA_ltoCoord d.1.1 d.1.2.1 d.1.2.2.1 d.1.2.2.2.1 d.1.2.2.2.2.1 d.1.2.2.2.2.2.1 hp
theorem c_ltoCoord : PContract Try.prog 43 (sumOf P_ltoCoord pre_ltoCoord g_ltoCoord) := PContract.of_data true G25 (fn := Try.f43) (by kernel_rfl) (L := fun _ _ => none) (by rw [show loopsIn 0 (bodyOf Try.f43) = [] by kernel_rfl]; simp) P_ltoCoord pre_ltoCoord g_ltoCoord run_ltoCoord
noncomputable def S26 : Tab := Tab.add S25 43 (lift (sumOf P_ltoCoord pre_ltoCoord g_ltoCoord))
noncomputable def QF26 : FuncId → Bool := qadd QF25 43
theorem G26 : Good Try.prog tt S26 QF26 := G25.addQ c_ltoCoord ⟨Try.f43, by kernel_rfl, by kernel_rfl, by kernel_rfl⟩ (fun _ => rfl)

/-! 113 loop.example/g00244/laws.toRec -/
noncomputable abbrev P_ltoRec : List PSh := [.agg [(.int .i64), (.int .i64), (.sl (.pair (.int .i64) (.pair .str .str)))]]
noncomputable def ltoRec (a0 : Int) (a1 : Int) (a2 : List (Int × ByteArray × ByteArray)) : Int × Int × List (Int × ByteArray × ByteArray) := (a0, a1, (ltoOpS a2))
noncomputable abbrev e_ltoRec (r : Int × Int × List (Int × ByteArray × ByteArray)) : AV × List AObj := ((.agg [(.t true (.int .i64) r.1), (.t true (.int .i64) r.2.1), (.t true (.sl (.pair (.int .i64) (.pair .str .str))) r.2.2)]), [])
noncomputable abbrev g_ltoRec : pshsDen P_ltoRec → AV × List AObj := fun d => e_ltoRec (ltoRec d.1.1 d.1.2.1 d.1.2.2.1)
noncomputable def q_ltoRec (a0 : Int) (a1 : Int) (a2 : List (Int × ByteArray × ByteArray)) : Bool := okL a2
noncomputable abbrev pre_ltoRec : pshsDen P_ltoRec → Bool := fun d => q_ltoRec d.1.1 d.1.2.1 d.1.2.2.1
theorem runA_ltoRec (a0 : Int) (a1 : Int) (a2 : List (Int × ByteArray × ByteArray)) (hp : (okL a2) = true) : runP true Try.prog tt S26 QF26 (fun _ _ => none) Try.f113 (argsMk P_ltoRec ((a0, (a1, (a2, ()))), ())) = some (g_ltoRec ((a0, (a1, (a2, ()))), ())) := by
  refine Eq.trans (b := (cond (q_ltoOpS a2) (some (e_ltoRec (a0, a1, (ltoOpS a2)))) none)) (by kernel_rfl) ?_
  exact (cndT (by first | rfl | decide | exact hp | (simp only [Bool.and_eq_true] at hp; simp only [hp]; done) | (simp [*]; done) | (simp [okL] at hp; simp [okL, MAXB]; omega) | (simp_all; done) | (simp at *; omega)) (fun _h => rfl))
theorem run_ltoRec : ∀ d, pre_ltoRec d = true → runP true Try.prog tt S26 QF26 (fun _ _ => none) Try.f113 (argsMk P_ltoRec d) = some (g_ltoRec d) := fun d hp => runA_ltoRec d.1.1 d.1.2.1 d.1.2.2.1 hp
theorem c_ltoRec : PContract Try.prog 113 (sumOf P_ltoRec pre_ltoRec g_ltoRec) := PContract.of_data true G26 (fn := Try.f113) (by kernel_rfl) (L := fun _ _ => none) (by rw [show loopsIn 0 (bodyOf Try.f113) = [] by kernel_rfl]; simp) P_ltoRec pre_ltoRec g_ltoRec run_ltoRec
noncomputable def S27 : Tab := Tab.add S26 113 (lift (sumOf P_ltoRec pre_ltoRec g_ltoRec))
noncomputable def QF27 : FuncId → Bool := qadd QF26 113
theorem G27 : Good Try.prog tt S27 QF27 := G26.addQ c_ltoRec ⟨Try.f113, by kernel_rfl, by kernel_rfl, by kernel_rfl⟩ (fun _ => rfl)

/-! 99 loop.example/g00244/laws.toRecS -/
noncomputable abbrev P_ltoRecS : List PSh := [.t (.sl (.pair (.int .i64) (.pair (.int .i64) (.sl (.pair (.int .i64) (.pair .str .str))))))]
noncomputable abbrev S_ltoRecS_0 : SS := ⟨[.t false (.sl (.pair (.int .i64) (.pair (.int .i64) (.sl (.pair (.int .i64) (.pair .str .str)))))), .junk, .junk, .all 0 3, .t true (.int .i64), .junk, .junk, .junk, .junk, .junk, .junk, .junk, .junk, .junk, .junk, .junk, .junk, .junk, .junk, .junk, .junk, .junk, .junk], [.rows 69 true (.pair (.int .i64) (.pair (.int .i64) (.sl (.pair (.int .i64) (.pair .str .str)))))]⟩
noncomputable abbrev E_ltoRecS_0_0 : SS := ⟨[.junk, .junk, .junk, .all 0 3, .junk, .junk, .junk, .junk, .junk, .junk, .junk, .junk, .junk, .junk, .junk, .junk, .junk, .junk, .junk, .junk, .junk, .junk, .junk], [.rows 69 true (.pair (.int .i64) (.pair (.int .i64) (.sl (.pair (.int .i64) (.pair .str .str)))))]⟩
noncomputable def st_ltoRecS_0 (x0 : List (Int × Int × List (Int × ByteArray × ByteArray))) (x4 : Int) (h0 : List (Int × Int × List (Int × ByteArray × ByteArray))) : RT S_ltoRecS_0.den := (.br (decide (x4 < ((x0.length : Nat) : Int))) (.br (decide (0 ≤ x4 ∧ x4 < ((x0.length : Nat) : Int))) (.br (q_ltoRec ((x0.getD x4.toNat ((0 : Int), ((0 : Int), []))).1) (((x0.getD x4.toNat ((0 : Int), ((0 : Int), []))).2).1) (((x0.getD x4.toNat ((0 : Int), ((0 : Int), []))).2).2)) (.br (decide (0 ≤ x4 ∧ x4 < ((h0.length : Nat) : Int))) (.next ((x0, (), (), (), IntKind.wrap .i64 (x4 + (1 : Int)), (), (), (), (), (), (), (), (), (), (), (), (), (), (), (), (), (), (), ()), (h0.set x4.toNat (((ltoRec ((x0.getD x4.toNat ((0 : Int), ((0 : Int), []))).1) (((x0.getD x4.toNat ((0 : Int), ((0 : Int), []))).2).1) (((x0.getD x4.toNat ((0 : Int), ((0 : Int), []))).2).2)).1), (((ltoRec ((x0.getD x4.toNat ((0 : Int), ((0 : Int), []))).1) (((x0.getD x4.toNat ((0 : Int), ((0 : Int), []))).2).1) (((x0.getD x4.toNat ((0 : Int), ((0 : Int), []))).2).2)).2.1), ((ltoRec ((x0.getD x4.toNat ((0 : Int), ((0 : Int), []))).1) (((x0.getD x4.toNat ((0 : Int), ((0 : Int), []))).2).1) (((x0.getD x4.toNat ((0 : Int), ((0 : Int), []))).2).2)).2.2))), ()))) .fail) .fail) .fail) (.done (.exit 0) E_ltoRecS_0_0 (((), (), (), (), (), (), (), (), (), (), (), (), (), (), (), (), (), (), (), (), (), (), (), ()), (h0, ()))))
noncomputable abbrev V_ltoRecS_0 := (List (Int × Int × List (Int × ByteArray × ByteArray))) × (Int) × (List (Int × Int × List (Int × ByteArray × ByteArray)))
noncomputable abbrev A_ltoRecS_0 := Nat × (List (Int × Int × List (Int × ByteArray × ByteArray)))
noncomputable def fl_ltoRecS_0 : A_ltoRecS_0 := (99, ([] : List (Int × Int × List (Int × ByteArray × ByteArray))))
noncomputable def ss_ltoRecS_0 (x0 : List (Int × Int × List (Int × ByteArray × ByteArray))) (x4 : Int) (h0 : List (Int × Int × List (Int × ByteArray × ByteArray))) : V_ltoRecS_0 ⊕ A_ltoRecS_0 := (cond (decide (x4 < ((x0.length : Nat) : Int))) (cond (decide (0 ≤ x4 ∧ x4 < ((x0.length : Nat) : Int))) (cond (q_ltoRec ((x0.getD x4.toNat ((0 : Int), ((0 : Int), []))).1) (((x0.getD x4.toNat ((0 : Int), ((0 : Int), []))).2).1) (((x0.getD x4.toNat ((0 : Int), ((0 : Int), []))).2).2)) (cond (decide (0 ≤ x4 ∧ x4 < ((h0.length : Nat) : Int))) (.inl (x0, IntKind.wrap .i64 (x4 + (1 : Int)), h0.set x4.toNat (((ltoRec ((x0.getD x4.toNat ((0 : Int), ((0 : Int), []))).1) (((x0.getD x4.toNat ((0 : Int), ((0 : Int), []))).2).1) (((x0.getD x4.toNat ((0 : Int), ((0 : Int), []))).2).2)).1), (((ltoRec ((x0.getD x4.toNat ((0 : Int), ((0 : Int), []))).1) (((x0.getD x4.toNat ((0 : Int), ((0 : Int), []))).2).1) (((x0.getD x4.toNat ((0 : Int), ((0 : Int), []))).2).2)).2.1), ((ltoRec ((x0.getD x4.toNat ((0 : Int), ((0 : Int), []))).1) (((x0.getD x4.toNat ((0 : Int), ((0 : Int), []))).2).1) (((x0.getD x4.toNat ((0 : Int), ((0 : Int), []))).2).2)).2.2))))) (.inr fl_ltoRecS_0)) (.inr fl_ltoRecS_0)) (.inr fl_ltoRecS_0)) (.inr (0, h0)))
noncomputable def it_ltoRecS_0 (x0 : List (Int × Int × List (Int × ByteArray × ByteArray))) (x4 : Int) (h0 : List (Int × Int × List (Int × ByteArray × ByteArray))) : A_ltoRecS_0 := itX (fun v : V_ltoRecS_0 => ss_ltoRecS_0 v.1 v.2.1 v.2.2) fl_ltoRecS_0 (x0, x4, h0)
noncomputable def ct_ltoRecS_0 (a : A_ltoRecS_0) : CT := (.br (a.1 == 0) (.done (.exit 0) E_ltoRecS_0_0 (((), (), (), (), (), (), (), (), (), (), (), (), (), (), (), (), (), (), (), (), (), (), (), ()), (a.2, ()))) .fail)
noncomputable def T_ltoRecS_0 (x0 : List (Int × Int × List (Int × ByteArray × ByteArray))) (x4 : Int) (h0 : List (Int × Int × List (Int × ByteArray × ByteArray))) : CT := ct_ltoRecS_0 (it_ltoRecS_0 x0 x4 h0)
noncomputable abbrev sp_ltoRecS_0 : S_ltoRecS_0.den → RT S_ltoRecS_0.den := fun d => st_ltoRecS_0 d.1.1 d.1.2.2.2.2.1 d.2.1
noncomputable abbrev pk_ltoRecS_0 (x0 : List (Int × Int × List (Int × ByteArray × ByteArray))) (x4 : Int) (h0 : List (Int × Int × List (Int × ByteArray × ByteArray))) : S_ltoRecS_0.den := ((x0, (), (), (), x4, (), (), (), (), (), (), (), (), (), (), (), (), (), (), (), (), (), (), ()), (h0, ()))
noncomputable def body_ltoRecS_0 : Code := ((loopsIn 0 (bodyOf Try.f99)).getD 0 (0, .skip)).2
theorem R_ltoRecS_0 (x0 : List (Int × Int × List (Int × ByteArray × ByteArray))) (x4 : Int) (h0 : List (Int × Int × List (Int × ByteArray × ByteArray))) : (T_ltoRecS_0 x0 x4 h0).val (D := S_ltoRecS_0.den) = .fail ∨ Runs sp_ltoRecS_0 (pk_ltoRecS_0 x0 x4 h0) (T_ltoRecS_0 x0 x4 h0).val := Runs.ofIt (step := sp_ltoRecS_0) (fun v : V_ltoRecS_0 => pk_ltoRecS_0 v.1 v.2.1 v.2.2) (ct := ct_ltoRecS_0) rfl (fun v => ((relB (relB (relB (relB rfl rfl) rfl) rfl) rfl) : (st_ltoRecS_0 v.1 v.2.1 v.2.2).val = relS (fun v : V_ltoRecS_0 => pk_ltoRecS_0 v.1 v.2.1 v.2.2) ct_ltoRecS_0 (ss_ltoRecS_0 v.1 v.2.1 v.2.2))) (fun a => ((cendB (cendD (by simp)) cendF) : CEnd _ (ct_ltoRecS_0 a))) (x0, x4, h0)
theorem rd_ltoRecS_0 : ∀ d, execC Try.prog tt S27 QF27 (fun _ _ => none) 0 body_ltoRecS_0 (S_ltoRecS_0.st d 0 []) (fun e s' => some (e, S_ltoRecS_0.cutE (kepts [] [(0, [3])]) e s')) = (sp_ltoRecS_0 d).opt 0 [] := by
  intro d
  kernel_rfl
noncomputable abbrev say_ltoRecS_0 : St → Option Tree := S_ltoRecS_0.say 0 [] [] (fun d => T_ltoRecS_0 d.1.1 d.1.2.2.2.2.1 d.2.1)
theorem lw_ltoRecS_0 : LoopWp Try.prog say_ltoRecS_0 body_ltoRecS_0 := SS.wp G27 (fun _ _ => none) (by rw [show loopsIn 0 body_ltoRecS_0 = [] by kernel_rfl]; simp) S_ltoRecS_0 0 [] (kepts [] [(0, [3])]) [] sp_ltoRecS_0 rd_ltoRecS_0 _ (fun d => R_ltoRecS_0 d.1.1 d.1.2.2.2.2.1 d.2.1)
noncomputable def ltoRecS (a0 : List (Int × Int × List (Int × ByteArray × ByteArray))) : List (Int × Int × List (Int × ByteArray × ByteArray)) := ((it_ltoRecS_0 a0 (0 : Int) (List.replicate ((a0.length : Nat) : Int).toNat ((0 : Int), ((0 : Int), [])))).2)
noncomputable abbrev e_ltoRecS (r : List (Int × Int × List (Int × ByteArray × ByteArray))) : AV × List AObj := ((.t true (.sl (.pair (.int .i64) (.pair (.int .i64) (.sl (.pair (.int .i64) (.pair .str .str)))))) r), [])
noncomputable abbrev g_ltoRecS : pshsDen P_ltoRecS → AV × List AObj := fun d => e_ltoRecS (ltoRecS d.1)
noncomputable def q_ltoRecS (a0 : List (Int × Int × List (Int × ByteArray × ByteArray))) : Bool := (decide (0 ≤ ((a0.length : Nat) : Int) ∧ ((a0.length : Nat) : Int) = ((a0.length : Nat) : Int) ∧ ((a0.length : Nat) : Int).toNat * 40 ≤ MAXB ∧ ((a0.length : Nat) : Int) ≤ 9223372036854775807)) && ((it_ltoRecS_0 a0 (0 : Int) (List.replicate ((a0.length : Nat) : Int).toNat ((0 : Int), ((0 : Int), [])))).1 == 0)
noncomputable abbrev pre_ltoRecS : pshsDen P_ltoRecS → Bool := fun d => q_ltoRecS d.1
theorem runA_ltoRecS (a0 : List (Int × Int × List (Int × ByteArray × ByteArray))) (hp : ((decide (0 ≤ ((a0.length : Nat) : Int) ∧ ((a0.length : Nat) : Int) = ((a0.length : Nat) : Int) ∧ ((a0.length : Nat) : Int).toNat * 40 ≤ MAXB ∧ ((a0.length : Nat) : Int) ≤ 9223372036854775807)) && ((it_ltoRecS_0 a0 (0 : Int) (List.replicate ((a0.length : Nat) : Int).toNat ((0 : Int), ((0 : Int), [])))).1 == 0)) = true) : runP true Try.prog tt S27 QF27 (fun b => match b with | 0 => say_ltoRecS_0 | _ => fun _ => none) Try.f99 (argsMk P_ltoRecS (a0, ())) = some (g_ltoRecS (a0, ())) := by
  refine Eq.trans (b := (cond (decide (0 ≤ ((a0.length : Nat) : Int) ∧ ((a0.length : Nat) : Int) = ((a0.length : Nat) : Int) ∧ ((a0.length : Nat) : Int).toNat * 40 ≤ MAXB ∧ ((a0.length : Nat) : Int) ≤ 9223372036854775807)) (cond ((it_ltoRecS_0 a0 (0 : Int) (List.replicate ((a0.length : Nat) : Int).toNat ((0 : Int), ((0 : Int), [])))).1 == 0) (some (e_ltoRecS ((it_ltoRecS_0 a0 (0 : Int) (List.replicate ((a0.length : Nat) : Int).toNat ((0 : Int), ((0 : Int), [])))).2))) none) none)) (by kernel_rfl) ?_
  exact (cndT (andL hp) (fun _h => (fun hp => (cndT hp (fun _h => rfl))) (andR hp)))
theorem run_ltoRecS : ∀ d, pre_ltoRecS d = true → runP true Try.prog tt S27 QF27 (fun b => match b with | 0 => say_ltoRecS_0 | _ => fun _ => none) Try.f99 (argsMk P_ltoRecS d) = some (g_ltoRecS d) := fun d hp => runA_ltoRecS d.1 hp
theorem c_ltoRecS : PContract Try.prog 99 (sumOf P_ltoRecS pre_ltoRecS g_ltoRecS) := PContract.of_data true G27 (fn := Try.f99) (by kernel_rfl) (L := fun b => match b with | 0 => say_ltoRecS_0 | _ => fun _ => none) (by rw [show loopsIn 0 (bodyOf Try.f99) = [(0, body_ltoRecS_0)] by kernel_rfl]; intro p hp; simp only [List.mem_singleton] at hp; subst hp; exact lw_ltoRecS_0) P_ltoRecS pre_ltoRecS g_ltoRecS run_ltoRecS
noncomputable def S28 : Tab := Tab.add S27 99 (lift (sumOf P_ltoRecS pre_ltoRecS g_ltoRecS))
noncomputable def QF28 : FuncId → Bool := qadd QF27 99
theorem G28 : Good Try.prog tt S28 QF28 := G27.addQ c_ltoRecS ⟨Try.f99, by kernel_rfl, by kernel_rfl, by kernel_rfl⟩ (fun _ => rfl)

/-! 114 loop.example/g00244/laws.toPair -/
noncomputable abbrev P_ltoPair : List PSh := [.agg [.str, .str]]
noncomputable def ltoPair (a0 : ByteArray) (a1 : ByteArray) : ByteArray × ByteArray := (a0, a1)
noncomputable abbrev e_ltoPair (r : ByteArray × ByteArray) : AV × List AObj := ((.agg [(.t true .str r.1), (.t true .str r.2)]), [])
noncomputable abbrev g_ltoPair : pshsDen P_ltoPair → AV × List AObj := fun d => e_ltoPair (ltoPair d.1.1 d.1.2.1)
noncomputable abbrev pre_ltoPair : pshsDen P_ltoPair → Bool := fun d => true
theorem runA_ltoPair (a0 : ByteArray) (a1 : ByteArray) : runP true Try.prog tt S28 QF28 (fun _ _ => none) Try.f114 (argsMk P_ltoPair ((a0, (a1, ())), ())) = some (g_ltoPair ((a0, (a1, ())), ())) := by
  kernel_rfl
theorem run_ltoPair : ∀ d, pre_ltoPair d = true → runP true Try.prog tt S28 QF28 (fun _ _ => none) Try.f114 (argsMk P_ltoPair d) = some (g_ltoPair d) := fun d hp => runA_ltoPair d.1.1 d.1.2.1
theorem c_ltoPair : PContract Try.prog 114 (sumOf P_ltoPair pre_ltoPair g_ltoPair) := PContract.of_data true G28 (fn := Try.f114) (by kernel_rfl) (L := fun _ _ => none) (by rw [show loopsIn 0 (bodyOf Try.f114) = [] by kernel_rfl]; simp) P_ltoPair pre_ltoPair g_ltoPair run_ltoPair
noncomputable def S29 : Tab := Tab.add S28 114 (lift (sumOf P_ltoPair pre_ltoPair g_ltoPair))
noncomputable def QF29 : FuncId → Bool := qadd QF28 114
theorem G29 : Good Try.prog tt S29 QF29 := G28.addQ c_ltoPair ⟨Try.f114, by kernel_rfl, by kernel_rfl, by kernel_rfl⟩ (fun _ => rfl)

/-! 100 loop.example/g00244/laws.toPairS -/
noncomputable def f_ltoPairS_0 (x0 : List (ByteArray × ByteArray)) (i : Nat) : ByteArray × ByteArray := (((ltoPair ((x0.getD i ((⟨#[]⟩ : ByteArray), (⟨#[]⟩ : ByteArray))).1) ((x0.getD i ((⟨#[]⟩ : ByteArray), (⟨#[]⟩ : ByteArray))).2)).1), ((ltoPair ((x0.getD i ((⟨#[]⟩ : ByteArray), (⟨#[]⟩ : ByteArray))).1) ((x0.getD i ((⟨#[]⟩ : ByteArray), (⟨#[]⟩ : ByteArray))).2)).2))
noncomputable abbrev P_ltoPairS : List PSh := [.t (.sl (.pair .str .str))]
noncomputable abbrev S_ltoPairS_0 : SS := ⟨[.t false (.sl (.pair .str .str)), .junk, .junk, .all 0 2, .t true (.int .i64), .junk, .junk, .junk, .junk, .junk, .junk, .junk, .junk, .junk, .junk, .junk, .junk, .junk, .junk, .junk, .junk, .junk, .junk], [.rows 131 true (.pair .str .str)]⟩
noncomputable abbrev E_ltoPairS_0_0 : SS := ⟨[.junk, .junk, .junk, .all 0 2, .junk, .junk, .junk, .junk, .junk, .junk, .junk, .junk, .junk, .junk, .junk, .junk, .junk, .junk, .junk, .junk, .junk, .junk, .junk], [.rows 131 true (.pair .str .str)]⟩
noncomputable def st_ltoPairS_0 (x0 : List (ByteArray × ByteArray)) (x4 : Int) (h0 : List (ByteArray × ByteArray)) : RT S_ltoPairS_0.den := (.br (decide (x4 < ((x0.length : Nat) : Int))) (.br (decide (0 ≤ x4 ∧ x4 < ((x0.length : Nat) : Int))) (.br (decide (0 ≤ x4 ∧ x4 < ((h0.length : Nat) : Int))) (.next ((x0, (), (), (), IntKind.wrap .i64 (x4 + (1 : Int)), (), (), (), (), (), (), (), (), (), (), (), (), (), (), (), (), (), (), ()), (h0.set x4.toNat (((ltoPair ((x0.getD x4.toNat ((⟨#[]⟩ : ByteArray), (⟨#[]⟩ : ByteArray))).1) ((x0.getD x4.toNat ((⟨#[]⟩ : ByteArray), (⟨#[]⟩ : ByteArray))).2)).1), ((ltoPair ((x0.getD x4.toNat ((⟨#[]⟩ : ByteArray), (⟨#[]⟩ : ByteArray))).1) ((x0.getD x4.toNat ((⟨#[]⟩ : ByteArray), (⟨#[]⟩ : ByteArray))).2)).2)), ()))) .fail) .fail) (.done (.exit 0) E_ltoPairS_0_0 (((), (), (), (), (), (), (), (), (), (), (), (), (), (), (), (), (), (), (), (), (), (), (), ()), (h0, ()))))
noncomputable def T_ltoPairS_0 (x0 : List (ByteArray × ByteArray)) (x4 : Int) (h0 : List (ByteArray × ByteArray)) : CT := (.br (decide (0 ≤ x4) && (decide (h0.length = x0.length) && okL x0)) (.done (.exit 0) E_ltoPairS_0_0 (((), (), (), (), (), (), (), (), (), (), (), (), (), (), (), (), (), (), (), (), (), (), (), ()), ((foldN (fun i h => h.set i (f_ltoPairS_0 x0 i)) (x0.length - x4.toNat) x4.toNat h0), ()))) .fail)
noncomputable abbrev sp_ltoPairS_0 : S_ltoPairS_0.den → RT S_ltoPairS_0.den := fun d => st_ltoPairS_0 d.1.1 d.1.2.2.2.2.1 d.2.1
noncomputable abbrev pk_ltoPairS_0 (x0 : List (ByteArray × ByteArray)) (x4 : Int) (h0 : List (ByteArray × ByteArray)) : S_ltoPairS_0.den := ((x0, (), (), (), x4, (), (), (), (), (), (), (), (), (), (), (), (), (), (), (), (), (), (), ()), (h0, ()))
noncomputable def body_ltoPairS_0 : Code := ((loopsIn 0 (bodyOf Try.f100)).getD 0 (0, .skip)).2
theorem R_ltoPairS_0 (x0 : List (ByteArray × ByteArray)) (x4 : Int) (h0 : List (ByteArray × ByteArray)) : (T_ltoPairS_0 x0 x4 h0).val (D := S_ltoPairS_0.den) = .fail ∨ Runs sp_ltoPairS_0 (pk_ltoPairS_0 x0 x4 h0) (T_ltoPairS_0 x0 x4 h0).val := by
  cases hc : (decide (0 ≤ x4) && (decide (h0.length = x0.length) && okL x0)) with
  | false => left; simp only [T_ltoPairS_0, CT.val, hc, cond_false]
  | true =>
    right
    simp only [T_ltoPairS_0, CT.val, hc, cond_true]
    simp only [Bool.and_eq_true, decide_eq_true_eq] at hc
    obtain ⟨i, rfl⟩ := Int.eq_ofNat_of_zero_le hc.1
    have hs := okL_le hc.2.2
    simp only [Int.toNat_natCast]
    refine Runs.foldN (step := sp_ltoPairS_0) (fun j b => pk_ltoPairS_0 x0 (j : Int) b) (fun _ b => b.length = x0.length) (x0.length) (fun i h => h.set i (f_ltoPairS_0 x0 i))
      (fin := fun b => ((.done (.exit 0) E_ltoPairS_0_0 (((), (), (), (), (), (), (), (), (), (), (), (), (), (), (), (), (), (), (), (), (), (), (), ()), (b, ()))) : CT).val) (fun i b hi hb => ⟨by simpa using hb, ?_⟩) (fun i b hi hb => ?_) (x0.length - i) i h0 rfl hc.2.1
    · 
      have h0a : decide ((i : Int) < ((x0.length : Nat) : Int)) = true := decide_eq_true (by omega)
      have h0b : decide (0 ≤ (i : Int) ∧ (i : Int) < ((x0.length : Nat) : Int)) = true := decide_eq_true (by omega)
      have h9 : decide (0 ≤ (i : Int) ∧ (i : Int) < ((b.length : Nat) : Int)) = true := decide_eq_true (by omega)
      simp only [sp_ltoPairS_0, st_ltoPairS_0, RT.val, h0a, h0b, h9, cond_true, wrapS i (by omega), Int.toNat_natCast]
      rfl
    · have h1 : decide ((i : Int) < ((x0.length : Nat) : Int)) = false := decide_eq_false (by omega)
      exact ⟨by simp only [sp_ltoPairS_0, st_ltoPairS_0, RT.val, h1, cond_false]; rfl, _, _, _, rfl, by simp⟩
theorem rd_ltoPairS_0 : ∀ d, execC Try.prog tt S29 QF29 (fun _ _ => none) 0 body_ltoPairS_0 (S_ltoPairS_0.st d 0 []) (fun e s' => some (e, S_ltoPairS_0.cutE (kepts [] [(0, [3])]) e s')) = (sp_ltoPairS_0 d).opt 0 [] := by
  intro d
  kernel_rfl
noncomputable abbrev say_ltoPairS_0 : St → Option Tree := S_ltoPairS_0.say 0 [] [] (fun d => T_ltoPairS_0 d.1.1 d.1.2.2.2.2.1 d.2.1)
theorem lw_ltoPairS_0 : LoopWp Try.prog say_ltoPairS_0 body_ltoPairS_0 := SS.wp G29 (fun _ _ => none) (by rw [show loopsIn 0 body_ltoPairS_0 = [] by kernel_rfl]; simp) S_ltoPairS_0 0 [] (kepts [] [(0, [3])]) [] sp_ltoPairS_0 rd_ltoPairS_0 _ (fun d => R_ltoPairS_0 d.1.1 d.1.2.2.2.2.1 d.2.1)
noncomputable def ltoPairS (a0 : List (ByteArray × ByteArray)) : List (ByteArray × ByteArray) := (foldN (fun i h => h.set i (f_ltoPairS_0 a0 i)) (a0.length - (0 : Int).toNat) (0 : Int).toNat (List.replicate ((a0.length : Nat) : Int).toNat ((⟨#[]⟩ : ByteArray), (⟨#[]⟩ : ByteArray))))
noncomputable abbrev e_ltoPairS (r : List (ByteArray × ByteArray)) : AV × List AObj := ((.t true (.sl (.pair .str .str)) r), [])
noncomputable abbrev g_ltoPairS : pshsDen P_ltoPairS → AV × List AObj := fun d => e_ltoPairS (ltoPairS d.1)
noncomputable def q_ltoPairS (a0 : List (ByteArray × ByteArray)) : Bool := okL a0
noncomputable abbrev pre_ltoPairS : pshsDen P_ltoPairS → Bool := fun d => q_ltoPairS d.1
theorem runA_ltoPairS (a0 : List (ByteArray × ByteArray)) (hp : (okL a0) = true) : runP true Try.prog tt S29 QF29 (fun b => match b with | 0 => say_ltoPairS_0 | _ => fun _ => none) Try.f100 (argsMk P_ltoPairS (a0, ())) = some (g_ltoPairS (a0, ())) := by
  refine Eq.trans (b := (cond (decide (0 ≤ ((a0.length : Nat) : Int) ∧ ((a0.length : Nat) : Int) = ((a0.length : Nat) : Int) ∧ ((a0.length : Nat) : Int).toNat * 32 ≤ MAXB ∧ ((a0.length : Nat) : Int) ≤ 9223372036854775807)) (cond (decide (0 ≤ (0 : Int)) && (decide ((List.replicate ((a0.length : Nat) : Int).toNat ((⟨#[]⟩ : ByteArray), (⟨#[]⟩ : ByteArray))).length = a0.length) && okL a0)) (some (e_ltoPairS (foldN (fun i h => h.set i (f_ltoPairS_0 a0 i)) (a0.length - (0 : Int).toNat) (0 : Int).toNat (List.replicate ((a0.length : Nat) : Int).toNat ((⟨#[]⟩ : ByteArray), (⟨#[]⟩ : ByteArray)))))) none) none)) (by kernel_rfl) ?_
  exact (cndT (by first | rfl | decide | exact hp | (simp only [Bool.and_eq_true] at hp; simp only [hp]; done) | (simp [*]; done) | (simp [okL] at hp; simp [okL, MAXB]; omega) | (simp_all; done) | (simp at *; omega)) (fun _h => (cndT (by first | rfl | decide | exact hp | (simp only [Bool.and_eq_true] at hp; simp only [hp]; done) | (simp [*]; done) | (simp [okL] at hp; simp [okL, MAXB]; omega) | (simp_all; done) | (simp at *; omega)) (fun _h => rfl))))
theorem run_ltoPairS : ∀ d, pre_ltoPairS d = true → runP true Try.prog tt S29 QF29 (fun b => match b with | 0 => say_ltoPairS_0 | _ => fun _ => none) Try.f100 (argsMk P_ltoPairS d) = some (g_ltoPairS d) := fun d hp => runA_ltoPairS d.1 hp
theorem c_ltoPairS : PContract Try.prog 100 (sumOf P_ltoPairS pre_ltoPairS g_ltoPairS) := PContract.of_data true G29 (fn := Try.f100) (by kernel_rfl) (L := fun b => match b with | 0 => say_ltoPairS_0 | _ => fun _ => none) (by rw [show loopsIn 0 (bodyOf Try.f100) = [(0, body_ltoPairS_0)] by kernel_rfl]; intro p hp; simp only [List.mem_singleton] at hp; subst hp; exact lw_ltoPairS_0) P_ltoPairS pre_ltoPairS g_ltoPairS run_ltoPairS
noncomputable def S30 : Tab := Tab.add S29 100 (lift (sumOf P_ltoPairS pre_ltoPairS g_ltoPairS))
noncomputable def QF30 : FuncId → Bool := qadd QF29 100
theorem G30 : Good Try.prog tt S30 QF30 := G29.addQ c_ltoPairS ⟨Try.f100, by kernel_rfl, by kernel_rfl, by kernel_rfl⟩ (fun _ => rfl)

/-! 78 loop.example/g00244/laws.toShard -/
noncomputable abbrev P_ltoShard : List PSh := [.agg [(.int .i64), (.sl (.pair (.int .i64) (.pair (.int .i64) (.sl (.pair (.int .i64) (.pair .str .str)))))), (.int .i64), (.sl (.pair .str .str)), (.sl (.pair (.int .i64) (.pair (.int .i64) (.sl (.pair (.int .i64) (.pair .str .str))))))]]
noncomputable def ltoShard (a0 : Int) (a1 : List (Int × Int × List (Int × ByteArray × ByteArray))) (a2 : Int) (a3 : List (ByteArray × ByteArray)) (a4 : List (Int × Int × List (Int × ByteArray × ByteArray))) : Int × (List (Int × Int × List (Int × ByteArray × ByteArray))) × Int × (List (ByteArray × ByteArray)) × List (Int × Int × List (Int × ByteArray × ByteArray)) := (a0, (ltoRecS a1), a2, (ltoPairS a3), (ltoRecS a4))
noncomputable abbrev e_ltoShard (r : Int × (List (Int × Int × List (Int × ByteArray × ByteArray))) × Int × (List (ByteArray × ByteArray)) × List (Int × Int × List (Int × ByteArray × ByteArray))) : AV × List AObj := ((.agg [(.t true (.int .i64) r.1), (.t true (.sl (.pair (.int .i64) (.pair (.int .i64) (.sl (.pair (.int .i64) (.pair .str .str)))))) r.2.1), (.t true (.int .i64) r.2.2.1), (.t true (.sl (.pair .str .str)) r.2.2.2.1), (.t true (.sl (.pair (.int .i64) (.pair (.int .i64) (.sl (.pair (.int .i64) (.pair .str .str)))))) r.2.2.2.2)]), [])
noncomputable abbrev g_ltoShard : pshsDen P_ltoShard → AV × List AObj := fun d => e_ltoShard (ltoShard d.1.1 d.1.2.1 d.1.2.2.1 d.1.2.2.2.1 d.1.2.2.2.2.1)
noncomputable def q_ltoShard (a0 : Int) (a1 : List (Int × Int × List (Int × ByteArray × ByteArray))) (a2 : Int) (a3 : List (ByteArray × ByteArray)) (a4 : List (Int × Int × List (Int × ByteArray × ByteArray))) : Bool := (q_ltoRecS a1) && ((q_ltoPairS a3) && (q_ltoRecS a4))
noncomputable abbrev pre_ltoShard : pshsDen P_ltoShard → Bool := fun d => q_ltoShard d.1.1 d.1.2.1 d.1.2.2.1 d.1.2.2.2.1 d.1.2.2.2.2.1
theorem runA_ltoShard (a0 : Int) (a1 : List (Int × Int × List (Int × ByteArray × ByteArray))) (a2 : Int) (a3 : List (ByteArray × ByteArray)) (a4 : List (Int × Int × List (Int × ByteArray × ByteArray))) (hp : ((q_ltoRecS a1) && ((q_ltoPairS a3) && (q_ltoRecS a4))) = true) : runP true Try.prog tt S30 QF30 (fun _ _ => none) Try.f78 (argsMk P_ltoShard ((a0, (a1, (a2, (a3, (a4, ()))))), ())) = some (g_ltoShard ((a0, (a1, (a2, (a3, (a4, ()))))), ())) := by
  refine Eq.trans (b := (cond (q_ltoRecS a1) (cond (q_ltoPairS a3) (cond (q_ltoRecS a4) (some (e_ltoShard (a0, (ltoRecS a1), a2, (ltoPairS a3), (ltoRecS a4)))) none) none) none)) (by kernel_rfl) ?_
  exact (cndT (andL hp) (fun _h => (fun hp => (cndT (andL hp) (fun _h => (fun hp => (cndT hp (fun _h => rfl))) (andR hp)))) (andR hp)))
theorem run_ltoShard : ∀ d, pre_ltoShard d = true → runP true Try.prog tt S30 QF30 (fun _ _ => none) Try.f78 (argsMk P_ltoShard d) = some (g_ltoShard d) := fun d hp => runA_ltoShard d.1.1 d.1.2.1 d.1.2.2.1 d.1.2.2.2.1 d.1.2.2.2.2.1 hp
theorem c_ltoShard : PContract Try.prog 78 (sumOf P_ltoShard pre_ltoShard g_ltoShard) := PContract.of_data true G30 (fn := Try.f78) (by kernel_rfl) (L := fun _ _ => none) (by rw [show loopsIn 0 (bodyOf Try.f78) = [] by kernel_rfl]; simp) P_ltoShard pre_ltoShard g_ltoShard run_ltoShard
noncomputable def S31 : Tab := Tab.add S30 78 (lift (sumOf P_ltoShard pre_ltoShard g_ltoShard))
noncomputable def QF31 : FuncId → Bool := qadd QF30 78
theorem G31 : Good Try.prog tt S31 QF31 := G30.addQ c_ltoShard ⟨Try.f78, by kernel_rfl, by kernel_rfl, by kernel_rfl⟩ (fun _ => rfl)

/-! 44 loop.example/g00244/laws.toShardS -/
noncomputable abbrev P_ltoShardS : List PSh := [.t (.sl (.pair (.int .i64) (.pair (.sl (.pair (.int .i64) (.pair (.int .i64) (.sl (.pair (.int .i64) (.pair .str .str)))))) (.pair (.int .i64) (.pair (.sl (.pair .str .str)) (.sl (.pair (.int .i64) (.pair (.int .i64) (.sl (.pair (.int .i64) (.pair .str .str)))))))))))]
noncomputable abbrev S_ltoShardS_0 : SS := ⟨[.t false (.sl (.pair (.int .i64) (.pair (.sl (.pair (.int .i64) (.pair (.int .i64) (.sl (.pair (.int .i64) (.pair .str .str)))))) (.pair (.int .i64) (.pair (.sl (.pair .str .str)) (.sl (.pair (.int .i64) (.pair (.int .i64) (.sl (.pair (.int .i64) (.pair .str .str))))))))))), .junk, .junk, .all 0 5, .t true (.int .i64), .junk, .junk, .junk, .junk, .junk, .junk, .junk, .junk, .junk, .junk, .junk, .junk, .junk, .junk, .junk, .junk, .junk, .junk], [.rows 53 true (.pair (.int .i64) (.pair (.sl (.pair (.int .i64) (.pair (.int .i64) (.sl (.pair (.int .i64) (.pair .str .str)))))) (.pair (.int .i64) (.pair (.sl (.pair .str .str)) (.sl (.pair (.int .i64) (.pair (.int .i64) (.sl (.pair (.int .i64) (.pair .str .str))))))))))]⟩
noncomputable abbrev E_ltoShardS_0_0 : SS := ⟨[.junk, .junk, .junk, .all 0 5, .junk, .junk, .junk, .junk, .junk, .junk, .junk, .junk, .junk, .junk, .junk, .junk, .junk, .junk, .junk, .junk, .junk, .junk, .junk], [.rows 53 true (.pair (.int .i64) (.pair (.sl (.pair (.int .i64) (.pair (.int .i64) (.sl (.pair (.int .i64) (.pair .str .str)))))) (.pair (.int .i64) (.pair (.sl (.pair .str .str)) (.sl (.pair (.int .i64) (.pair (.int .i64) (.sl (.pair (.int .i64) (.pair .str .str))))))))))]⟩
noncomputable def st_ltoShardS_0 (x0 : List (Int × (List (Int × Int × List (Int × ByteArray × ByteArray))) × Int × (List (ByteArray × ByteArray)) × List (Int × Int × List (Int × ByteArray × ByteArray)))) (x4 : Int) (h0 : List (Int × (List (Int × Int × List (Int × ByteArray × ByteArray))) × Int × (List (ByteArray × ByteArray)) × List (Int × Int × List (Int × ByteArray × ByteArray)))) : RT S_ltoShardS_0.den := (.br (decide (x4 < ((x0.length : Nat) : Int))) (.br (decide (0 ≤ x4 ∧ x4 < ((x0.length : Nat) : Int))) (.br (q_ltoShard ((x0.getD x4.toNat ((0 : Int), ([], ((0 : Int), ([], []))))).1) (((x0.getD x4.toNat ((0 : Int), ([], ((0 : Int), ([], []))))).2).1) ((((x0.getD x4.toNat ((0 : Int), ([], ((0 : Int), ([], []))))).2).2).1) (((((x0.getD x4.toNat ((0 : Int), ([], ((0 : Int), ([], []))))).2).2).2).1) (((((x0.getD x4.toNat ((0 : Int), ([], ((0 : Int), ([], []))))).2).2).2).2)) (.br (decide (0 ≤ x4 ∧ x4 < ((h0.length : Nat) : Int))) (.next ((x0, (), (), (), IntKind.wrap .i64 (x4 + (1 : Int)), (), (), (), (), (), (), (), (), (), (), (), (), (), (), (), (), (), (), ()), (h0.set x4.toNat (((ltoShard ((x0.getD x4.toNat ((0 : Int), ([], ((0 : Int), ([], []))))).1) (((x0.getD x4.toNat ((0 : Int), ([], ((0 : Int), ([], []))))).2).1) ((((x0.getD x4.toNat ((0 : Int), ([], ((0 : Int), ([], []))))).2).2).1) (((((x0.getD x4.toNat ((0 : Int), ([], ((0 : Int), ([], []))))).2).2).2).1) (((((x0.getD x4.toNat ((0 : Int), ([], ((0 : Int), ([], []))))).2).2).2).2)).1), (((ltoShard ((x0.getD x4.toNat ((0 : Int), ([], ((0 : Int), ([], []))))).1) (((x0.getD x4.toNat ((0 : Int), ([], ((0 : Int), ([], []))))).2).1) ((((x0.getD x4.toNat ((0 : Int), ([], ((0 : Int), ([], []))))).2).2).1) (((((x0.getD x4.toNat ((0 : Int), ([], ((0 : Int), ([], []))))).2).2).2).1) (((((x0.getD x4.toNat ((0 : Int), ([], ((0 : Int), ([], []))))).2).2).2).2)).2.1), (((ltoShard ((x0.getD x4.toNat ((0 : Int), ([], ((0 : Int), ([], []))))).1) (((x0.getD x4.toNat ((0 : Int), ([], ((0 : Int), ([], []))))).2).1) ((((x0.getD x4.toNat ((0 : Int), ([], ((0 : Int), ([], []))))).2).2).1) (((((x0.getD x4.toNat ((0 : Int), ([], ((0 : Int), ([], []))))).2).2).2).1) (((((x0.getD x4.toNat ((0 : Int), ([], ((0 : Int), ([], []))))).2).2).2).2)).2.2.1), (((ltoShard ((x0.getD x4.toNat ((0 : Int), ([], ((0 : Int), ([], []))))).1) (((x0.getD x4.toNat ((0 : Int), ([], ((0 : Int), ([], []))))).2).1) ((((x0.getD x4.toNat ((0 : Int), ([], ((0 : Int), ([], []))))).2).2).1) (((((x0.getD x4.toNat ((0 : Int), ([], ((0 : Int), ([], []))))).2).2).2).1) (((((x0.getD x4.toNat ((0 : Int), ([], ((0 : Int), ([], []))))).2).2).2).2)).2.2.2.1), ((ltoShard ((x0.getD x4.toNat ((0 : Int), ([], ((0 : Int), ([], []))))).1) (((x0.getD x4.toNat ((0 : Int), ([], ((0 : Int), ([], []))))).2).1) ((((x0.getD x4.toNat ((0 : Int), ([], ((0 : Int), ([], []))))).2).2).1) (((((x0.getD x4.toNat ((0 : Int), ([], ((0 : Int), ([], []))))).2).2).2).1) (((((x0.getD x4.toNat ((0 : Int), ([], ((0 : Int), ([], []))))).2).2).2).2)).2.2.2.2))))), ()))) .fail) .fail) .fail) (.done (.exit 0) E_ltoShardS_0_0 (((), (), (), (), (), (), (), (), (), (), (), (), (), (), (), (), (), (), (), (), (), (), (), ()), (h0, ()))))
noncomputable abbrev V_ltoShardS_0 := (List (Int × (List (Int × Int × List (Int × ByteArray × ByteArray))) × Int × (List (ByteArray × ByteArray)) × List (Int × Int × List (Int × ByteArray × ByteArray)))) × (Int) × (List (Int × (List (Int × Int × List (Int × ByteArray × ByteArray))) × Int × (List (ByteArray × ByteArray)) × List (Int × Int × List (Int × ByteArray × ByteArray))))
noncomputable abbrev A_ltoShardS_0 := Nat × (List (Int × (List (Int × Int × List (Int × ByteArray × ByteArray))) × Int × (List (ByteArray × ByteArray)) × List (Int × Int × List (Int × ByteArray × ByteArray))))
noncomputable def fl_ltoShardS_0 : A_ltoShardS_0 := (99, ([] : List (Int × (List (Int × Int × List (Int × ByteArray × ByteArray))) × Int × (List (ByteArray × ByteArray)) × List (Int × Int × List (Int × ByteArray × ByteArray)))))
noncomputable def ss_ltoShardS_0 (x0 : List (Int × (List (Int × Int × List (Int × ByteArray × ByteArray))) × Int × (List (ByteArray × ByteArray)) × List (Int × Int × List (Int × ByteArray × ByteArray)))) (x4 : Int) (h0 : List (Int × (List (Int × Int × List (Int × ByteArray × ByteArray))) × Int × (List (ByteArray × ByteArray)) × List (Int × Int × List (Int × ByteArray × ByteArray)))) : V_ltoShardS_0 ⊕ A_ltoShardS_0 := (cond (decide (x4 < ((x0.length : Nat) : Int))) (cond (decide (0 ≤ x4 ∧ x4 < ((x0.length : Nat) : Int))) (cond (q_ltoShard ((x0.getD x4.toNat ((0 : Int), ([], ((0 : Int), ([], []))))).1) (((x0.getD x4.toNat ((0 : Int), ([], ((0 : Int), ([], []))))).2).1) ((((x0.getD x4.toNat ((0 : Int), ([], ((0 : Int), ([], []))))).2).2).1) (((((x0.getD x4.toNat ((0 : Int), ([], ((0 : Int), ([], []))))).2).2).2).1) (((((x0.getD x4.toNat ((0 : Int), ([], ((0 : Int), ([], []))))).2).2).2).2)) (cond (decide (0 ≤ x4 ∧ x4 < ((h0.length : Nat) : Int))) (.inl (x0, IntKind.wrap .i64 (x4 + (1 : Int)), h0.set x4.toNat (((ltoShard ((x0.getD x4.toNat ((0 : Int), ([], ((0 : Int), ([], []))))).1) (((x0.getD x4.toNat ((0 : Int), ([], ((0 : Int), ([], []))))).2).1) ((((x0.getD x4.toNat ((0 : Int), ([], ((0 : Int), ([], []))))).2).2).1) (((((x0.getD x4.toNat ((0 : Int), ([], ((0 : Int), ([], []))))).2).2).2).1) (((((x0.getD x4.toNat ((0 : Int), ([], ((0 : Int), ([], []))))).2).2).2).2)).1), (((ltoShard ((x0.getD x4.toNat ((0 : Int), ([], ((0 : Int), ([], []))))).1) (((x0.getD x4.toNat ((0 : Int), ([], ((0 : Int), ([], []))))).2).1) ((((x0.getD x4.toNat ((0 : Int), ([], ((0 : Int), ([], []))))).2).2).1) (((((x0.getD x4.toNat ((0 : Int), ([], ((0 : Int), ([], []))))).2).2).2).1) (((((x0.getD x4.toNat ((0 : Int), ([], ((0 : Int), ([], []))))).2).2).2).2)).2.1), (((ltoShard ((x0.getD x4.toNat ((0 : Int), ([], ((0 : Int), ([], []))))).1) (((x0.getD x4.toNat ((0 : Int), ([], ((0 : Int), ([], []))))).2).1) ((((x0.getD x4.toNat ((0 : Int), ([], ((0 : Int), ([], []))))).2).2).1) (((((x0.getD x4.toNat ((0 : Int), ([], ((0 : Int), ([], []))))).2).2).2).1) (((((x0.getD x4.toNat ((0 : Int), ([], ((0 : Int), ([], []))))).2).2).2).2)).2.2.1), (((ltoShard ((x0.getD x4.toNat ((0 : Int), ([], ((0 : Int), ([], []))))).1) (((x0.getD x4.toNat ((0 : Int), ([], ((0 : Int), ([], []))))).2).1) ((((x0.getD x4.toNat ((0 : Int), ([], ((0 : Int), ([], []))))).2).2).1) (((((x0.getD x4.toNat ((0 : Int), ([], ((0 : Int), ([], []))))).2).2).2).1) (((((x0.getD x4.toNat ((0 : Int), ([], ((0 : Int), ([], []))))).2).2).2).2)).2.2.2.1), ((ltoShard ((x0.getD x4.toNat ((0 : Int), ([], ((0 : Int), ([], []))))).1) (((x0.getD x4.toNat ((0 : Int), ([], ((0 : Int), ([], []))))).2).1) ((((x0.getD x4.toNat ((0 : Int), ([], ((0 : Int), ([], []))))).2).2).1) (((((x0.getD x4.toNat ((0 : Int), ([], ((0 : Int), ([], []))))).2).2).2).1) (((((x0.getD x4.toNat ((0 : Int), ([], ((0 : Int), ([], []))))).2).2).2).2)).2.2.2.2))))))) (.inr fl_ltoShardS_0)) (.inr fl_ltoShardS_0)) (.inr fl_ltoShardS_0)) (.inr (0, h0)))
noncomputable def it_ltoShardS_0 (x0 : List (Int × (List (Int × Int × List (Int × ByteArray × ByteArray))) × Int × (List (ByteArray × ByteArray)) × List (Int × Int × List (Int × ByteArray × ByteArray)))) (x4 : Int) (h0 : List (Int × (List (Int × Int × List (Int × ByteArray × ByteArray))) × Int × (List (ByteArray × ByteArray)) × List (Int × Int × List (Int × ByteArray × ByteArray)))) : A_ltoShardS_0 := itX (fun v : V_ltoShardS_0 => ss_ltoShardS_0 v.1 v.2.1 v.2.2) fl_ltoShardS_0 (x0, x4, h0)
noncomputable def ct_ltoShardS_0 (a : A_ltoShardS_0) : CT := (.br (a.1 == 0) (.done (.exit 0) E_ltoShardS_0_0 (((), (), (), (), (), (), (), (), (), (), (), (), (), (), (), (), (), (), (), (), (), (), (), ()), (a.2, ()))) .fail)
noncomputable def T_ltoShardS_0 (x0 : List (Int × (List (Int × Int × List (Int × ByteArray × ByteArray))) × Int × (List (ByteArray × ByteArray)) × List (Int × Int × List (Int × ByteArray × ByteArray)))) (x4 : Int) (h0 : List (Int × (List (Int × Int × List (Int × ByteArray × ByteArray))) × Int × (List (ByteArray × ByteArray)) × List (Int × Int × List (Int × ByteArray × ByteArray)))) : CT := ct_ltoShardS_0 (it_ltoShardS_0 x0 x4 h0)
noncomputable abbrev sp_ltoShardS_0 : S_ltoShardS_0.den → RT S_ltoShardS_0.den := fun d => st_ltoShardS_0 d.1.1 d.1.2.2.2.2.1 d.2.1
noncomputable abbrev pk_ltoShardS_0 (x0 : List (Int × (List (Int × Int × List (Int × ByteArray × ByteArray))) × Int × (List (ByteArray × ByteArray)) × List (Int × Int × List (Int × ByteArray × ByteArray)))) (x4 : Int) (h0 : List (Int × (List (Int × Int × List (Int × ByteArray × ByteArray))) × Int × (List (ByteArray × ByteArray)) × List (Int × Int × List (Int × ByteArray × ByteArray)))) : S_ltoShardS_0.den := ((x0, (), (), (), x4, (), (), (), (), (), (), (), (), (), (), (), (), (), (), (), (), (), (), ()), (h0, ()))
noncomputable def body_ltoShardS_0 : Code := ((loopsIn 0 (bodyOf Try.f44)).getD 0 (0, .skip)).2
theorem R_ltoShardS_0 (x0 : List (Int × (List (Int × Int × List (Int × ByteArray × ByteArray))) × Int × (List (ByteArray × ByteArray)) × List (Int × Int × List (Int × ByteArray × ByteArray)))) (x4 : Int) (h0 : List (Int × (List (Int × Int × List (Int × ByteArray × ByteArray))) × Int × (List (ByteArray × ByteArray)) × List (Int × Int × List (Int × ByteArray × ByteArray)))) : (T_ltoShardS_0 x0 x4 h0).val (D := S_ltoShardS_0.den) = .fail ∨ Runs sp_ltoShardS_0 (pk_ltoShardS_0 x0 x4 h0) (T_ltoShardS_0 x0 x4 h0).val := Runs.ofIt (step := sp_ltoShardS_0) (fun v : V_ltoShardS_0 => pk_ltoShardS_0 v.1 v.2.1 v.2.2) (ct := ct_ltoShardS_0) rfl (fun v => ((relB (relB (relB (relB rfl rfl) rfl) rfl) rfl) : (st_ltoShardS_0 v.1 v.2.1 v.2.2).val = relS (fun v : V_ltoShardS_0 => pk_ltoShardS_0 v.1 v.2.1 v.2.2) ct_ltoShardS_0 (ss_ltoShardS_0 v.1 v.2.1 v.2.2))) (fun a => ((cendB (cendD (by simp)) cendF) : CEnd _ (ct_ltoShardS_0 a))) (x0, x4, h0)
theorem rd_ltoShardS_0 : ∀ d, execC Try.prog tt S31 QF31 (fun _ _ => none) 0 body_ltoShardS_0 (S_ltoShardS_0.st d 0 []) (fun e s' => some (e, S_ltoShardS_0.cutE (kepts [] [(0, [3])]) e s')) = (sp_ltoShardS_0 d).opt 0 [] := by
  intro d
  kernel_rfl
noncomputable abbrev say_ltoShardS_0 : St → Option Tree := S_ltoShardS_0.say 0 [] [] (fun d => T_ltoShardS_0 d.1.1 d.1.2.2.2.2.1 d.2.1)
theorem lw_ltoShardS_0 : LoopWp Try.prog say_ltoShardS_0 body_ltoShardS_0 := SS.wp G31 (fun _ _ => none) (by rw [show loopsIn 0 body_ltoShardS_0 = [] by kernel_rfl]; simp) S_ltoShardS_0 0 [] (kepts [] [(0, [3])]) [] sp_ltoShardS_0 rd_ltoShardS_0 _ (fun d => R_ltoShardS_0 d.1.1 d.1.2.2.2.2.1 d.2.1)
noncomputable def ltoShardS (a0 : List (Int × (List (Int × Int × List (Int × ByteArray × ByteArray))) × Int × (List (ByteArray × ByteArray)) × List (Int × Int × List (Int × ByteArray × ByteArray)))) : List (Int × (List (Int × Int × List (Int × ByteArray × ByteArray))) × Int × (List (ByteArray × ByteArray)) × List (Int × Int × List (Int × ByteArray × ByteArray))) := ((it_ltoShardS_0 a0 (0 : Int) (List.replicate ((a0.length : Nat) : Int).toNat ((0 : Int), ([], ((0 : Int), ([], [])))))).2)
noncomputable abbrev e_ltoShardS (r : List (Int × (List (Int × Int × List (Int × ByteArray × ByteArray))) × Int × (List (ByteArray × ByteArray)) × List (Int × Int × List (Int × ByteArray × ByteArray)))) : AV × List AObj := ((.t true (.sl (.pair (.int .i64) (.pair (.sl (.pair (.int .i64) (.pair (.int .i64) (.sl (.pair (.int .i64) (.pair .str .str)))))) (.pair (.int .i64) (.pair (.sl (.pair .str .str)) (.sl (.pair (.int .i64) (.pair (.int .i64) (.sl (.pair (.int .i64) (.pair .str .str))))))))))) r), [])
noncomputable abbrev g_ltoShardS : pshsDen P_ltoShardS → AV × List AObj := fun d => e_ltoShardS (ltoShardS d.1)
noncomputable def q_ltoShardS (a0 : List (Int × (List (Int × Int × List (Int × ByteArray × ByteArray))) × Int × (List (ByteArray × ByteArray)) × List (Int × Int × List (Int × ByteArray × ByteArray)))) : Bool := (decide (0 ≤ ((a0.length : Nat) : Int) ∧ ((a0.length : Nat) : Int) = ((a0.length : Nat) : Int) ∧ ((a0.length : Nat) : Int).toNat * 88 ≤ MAXB ∧ ((a0.length : Nat) : Int) ≤ 9223372036854775807)) && ((it_ltoShardS_0 a0 (0 : Int) (List.replicate ((a0.length : Nat) : Int).toNat ((0 : Int), ([], ((0 : Int), ([], [])))))).1 == 0)
noncomputable abbrev pre_ltoShardS : pshsDen P_ltoShardS → Bool := fun d => q_ltoShardS d.1
theorem runA_ltoShardS (a0 : List (Int × (List (Int × Int × List (Int × ByteArray × ByteArray))) × Int × (List (ByteArray × ByteArray)) × List (Int × Int × List (Int × ByteArray × ByteArray)))) (hp : ((decide (0 ≤ ((a0.length : Nat) : Int) ∧ ((a0.length : Nat) : Int) = ((a0.length : Nat) : Int) ∧ ((a0.length : Nat) : Int).toNat * 88 ≤ MAXB ∧ ((a0.length : Nat) : Int) ≤ 9223372036854775807)) && ((it_ltoShardS_0 a0 (0 : Int) (List.replicate ((a0.length : Nat) : Int).toNat ((0 : Int), ([], ((0 : Int), ([], [])))))).1 == 0)) = true) : runP true Try.prog tt S31 QF31 (fun b => match b with | 0 => say_ltoShardS_0 | _ => fun _ => none) Try.f44 (argsMk P_ltoShardS (a0, ())) = some (g_ltoShardS (a0, ())) := by
  refine Eq.trans (b := (cond (decide (0 ≤ ((a0.length : Nat) : Int) ∧ ((a0.length : Nat) : Int) = ((a0.length : Nat) : Int) ∧ ((a0.length : Nat) : Int).toNat * 88 ≤ MAXB ∧ ((a0.length : Nat) : Int) ≤ 9223372036854775807)) (cond ((it_ltoShardS_0 a0 (0 : Int) (List.replicate ((a0.length : Nat) : Int).toNat ((0 : Int), ([], ((0 : Int), ([], [])))))).1 == 0) (some (e_ltoShardS ((it_ltoShardS_0 a0 (0 : Int) (List.replicate ((a0.length : Nat) : Int).toNat ((0 : Int), ([], ((0 : Int), ([], [])))))).2))) none) none)) (by kernel_rfl) ?_
  exact (cndT (andL hp) (fun _h => (fun hp => (cndT hp (fun _h => rfl))) (andR hp)))
theorem run_ltoShardS : ∀ d, pre_ltoShardS d = true → runP true Try.prog tt S31 QF31 (fun b => match b with | 0 => say_ltoShardS_0 | _ => fun _ => none) Try.f44 (argsMk P_ltoShardS d) = some (g_ltoShardS d) := fun d hp => runA_ltoShardS d.1 hp
theorem c_ltoShardS : PContract Try.prog 44 (sumOf P_ltoShardS pre_ltoShardS g_ltoShardS) := PContract.of_data true G31 (fn := Try.f44) (by kernel_rfl) (L := fun b => match b with | 0 => say_ltoShardS_0 | _ => fun _ => none) (by rw [show loopsIn 0 (bodyOf Try.f44) = [(0, body_ltoShardS_0)] by kernel_rfl]; intro p hp; simp only [List.mem_singleton] at hp; subst hp; exact lw_ltoShardS_0) P_ltoShardS pre_ltoShardS g_ltoShardS run_ltoShardS
noncomputable def S32 : Tab := Tab.add S31 44 (lift (sumOf P_ltoShardS pre_ltoShardS g_ltoShardS))
noncomputable def QF32 : FuncId → Bool := qadd QF31 44
theorem G32 : Good Try.prog tt S32 QF32 := G31.addQ c_ltoShardS ⟨Try.f44, by kernel_rfl, by kernel_rfl, by kernel_rfl⟩ (fun _ => rfl)

/-! 79 loop.example/g00244/laws.toWord -/
noncomputable abbrev P_ltoWord : List PSh := [.agg [(.int .i64), (.int .i64), (.int .i64), (.sl (.pair (.int .i64) (.pair .str .str))), .bool]]
noncomputable def ltoWord (a0 : Int) (a1 : Int) (a2 : Int) (a3 : List (Int × ByteArray × ByteArray)) (a4 : Bool) : Int × Int × Int × (List (Int × ByteArray × ByteArray)) × Bool := (a0, a1, a2, (ltoOpS a3), a4)
noncomputable abbrev e_ltoWord (r : Int × Int × Int × (List (Int × ByteArray × ByteArray)) × Bool) : AV × List AObj := ((.agg [(.t true (.int .i64) r.1), (.t true (.int .i64) r.2.1), (.t true (.int .i64) r.2.2.1), (.t true (.sl (.pair (.int .i64) (.pair .str .str))) r.2.2.2.1), (.t true .bool r.2.2.2.2)]), [])
noncomputable abbrev g_ltoWord : pshsDen P_ltoWord → AV × List AObj := fun d => e_ltoWord (ltoWord d.1.1 d.1.2.1 d.1.2.2.1 d.1.2.2.2.1 d.1.2.2.2.2.1)
noncomputable def q_ltoWord (a0 : Int) (a1 : Int) (a2 : Int) (a3 : List (Int × ByteArray × ByteArray)) (a4 : Bool) : Bool := okL a3
noncomputable abbrev pre_ltoWord : pshsDen P_ltoWord → Bool := fun d => q_ltoWord d.1.1 d.1.2.1 d.1.2.2.1 d.1.2.2.2.1 d.1.2.2.2.2.1
theorem runA_ltoWord (a0 : Int) (a1 : Int) (a2 : Int) (a3 : List (Int × ByteArray × ByteArray)) (a4 : Bool) (hp : (okL a3) = true) : runP true Try.prog tt S32 QF32 (fun _ _ => none) Try.f79 (argsMk P_ltoWord ((a0, (a1, (a2, (a3, (a4, ()))))), ())) = some (g_ltoWord ((a0, (a1, (a2, (a3, (a4, ()))))), ())) := by
  refine Eq.trans (b := (cond (q_ltoOpS a3) (some (e_ltoWord (a0, a1, a2, (ltoOpS a3), a4))) none)) (by kernel_rfl) ?_
  exact (cndT (by first | rfl | decide | exact hp | (simp only [Bool.and_eq_true] at hp; simp only [hp]; done) | (simp [*]; done) | (simp [okL] at hp; simp [okL, MAXB]; omega) | (simp_all; done) | (simp at *; omega)) (fun _h => rfl))
theorem run_ltoWord : ∀ d, pre_ltoWord d = true → runP true Try.prog tt S32 QF32 (fun _ _ => none) Try.f79 (argsMk P_ltoWord d) = some (g_ltoWord d) := fun d hp => runA_ltoWord d.1.1 d.1.2.1 d.1.2.2.1 d.1.2.2.2.1 d.1.2.2.2.2.1 hp
theorem c_ltoWord : PContract Try.prog 79 (sumOf P_ltoWord pre_ltoWord g_ltoWord) := PContract.of_data true G32 (fn := Try.f79) (by kernel_rfl) (L := fun _ _ => none) (by rw [show loopsIn 0 (bodyOf Try.f79) = [] by kernel_rfl]; simp) P_ltoWord pre_ltoWord g_ltoWord run_ltoWord
noncomputable def S33 : Tab := Tab.add S32 79 (lift (sumOf P_ltoWord pre_ltoWord g_ltoWord))
noncomputable def QF33 : FuncId → Bool := qadd QF32 79
theorem G33 : Good Try.prog tt S33 QF33 := G32.addQ c_ltoWord ⟨Try.f79, by kernel_rfl, by kernel_rfl, by kernel_rfl⟩ (fun _ => rfl)

/-! 45 loop.example/g00244/laws.toWordS -/
noncomputable abbrev P_ltoWordS : List PSh := [.t (.sl (.pair (.int .i64) (.pair (.int .i64) (.pair (.int .i64) (.pair (.sl (.pair (.int .i64) (.pair .str .str))) .bool)))))]
noncomputable abbrev S_ltoWordS_0 : SS := ⟨[.t false (.sl (.pair (.int .i64) (.pair (.int .i64) (.pair (.int .i64) (.pair (.sl (.pair (.int .i64) (.pair .str .str))) .bool))))), .junk, .junk, .all 0 5, .t true (.int .i64), .junk, .junk, .junk, .junk, .junk, .junk, .junk, .junk, .junk, .junk, .junk, .junk, .junk, .junk, .junk, .junk, .junk, .junk], [.rows 89 true (.pair (.int .i64) (.pair (.int .i64) (.pair (.int .i64) (.pair (.sl (.pair (.int .i64) (.pair .str .str))) .bool))))]⟩
noncomputable abbrev E_ltoWordS_0_0 : SS := ⟨[.junk, .junk, .junk, .all 0 5, .junk, .junk, .junk, .junk, .junk, .junk, .junk, .junk, .junk, .junk, .junk, .junk, .junk, .junk, .junk, .junk, .junk, .junk, .junk], [.rows 89 true (.pair (.int .i64) (.pair (.int .i64) (.pair (.int .i64) (.pair (.sl (.pair (.int .i64) (.pair .str .str))) .bool))))]⟩
noncomputable def st_ltoWordS_0 (x0 : List (Int × Int × Int × (List (Int × ByteArray × ByteArray)) × Bool)) (x4 : Int) (h0 : List (Int × Int × Int × (List (Int × ByteArray × ByteArray)) × Bool)) : RT S_ltoWordS_0.den := (.br (decide (x4 < ((x0.length : Nat) : Int))) (.br (decide (0 ≤ x4 ∧ x4 < ((x0.length : Nat) : Int))) (.br (q_ltoWord ((x0.getD x4.toNat ((0 : Int), ((0 : Int), ((0 : Int), ([], false))))).1) (((x0.getD x4.toNat ((0 : Int), ((0 : Int), ((0 : Int), ([], false))))).2).1) ((((x0.getD x4.toNat ((0 : Int), ((0 : Int), ((0 : Int), ([], false))))).2).2).1) (((((x0.getD x4.toNat ((0 : Int), ((0 : Int), ((0 : Int), ([], false))))).2).2).2).1) (((((x0.getD x4.toNat ((0 : Int), ((0 : Int), ((0 : Int), ([], false))))).2).2).2).2)) (.br (decide (0 ≤ x4 ∧ x4 < ((h0.length : Nat) : Int))) (.next ((x0, (), (), (), IntKind.wrap .i64 (x4 + (1 : Int)), (), (), (), (), (), (), (), (), (), (), (), (), (), (), (), (), (), (), ()), (h0.set x4.toNat (((ltoWord ((x0.getD x4.toNat ((0 : Int), ((0 : Int), ((0 : Int), ([], false))))).1) (((x0.getD x4.toNat ((0 : Int), ((0 : Int), ((0 : Int), ([], false))))).2).1) ((((x0.getD x4.toNat ((0 : Int), ((0 : Int), ((0 : Int), ([], false))))).2).2).1) (((((x0.getD x4.toNat ((0 : Int), ((0 : Int), ((0 : Int), ([], false))))).2).2).2).1) (((((x0.getD x4.toNat ((0 : Int), ((0 : Int), ((0 : Int), ([], false))))).2).2).2).2)).1), (((ltoWord ((x0.getD x4.toNat ((0 : Int), ((0 : Int), ((0 : Int), ([], false))))).1) (((x0.getD x4.toNat ((0 : Int), ((0 : Int), ((0 : Int), ([], false))))).2).1) ((((x0.getD x4.toNat ((0 : Int), ((0 : Int), ((0 : Int), ([], false))))).2).2).1) (((((x0.getD x4.toNat ((0 : Int), ((0 : Int), ((0 : Int), ([], false))))).2).2).2).1) (((((x0.getD x4.toNat ((0 : Int), ((0 : Int), ((0 : Int), ([], false))))).2).2).2).2)).2.1), (((ltoWord ((x0.getD x4.toNat ((0 : Int), ((0 : Int), ((0 : Int), ([], false))))).1) (((x0.getD x4.toNat ((0 : Int), ((0 : Int), ((0 : Int), ([], false))))).2).1) ((((x0.getD x4.toNat ((0 : Int), ((0 : Int), ((0 : Int), ([], false))))).2).2).1) (((((x0.getD x4.toNat ((0 : Int), ((0 : Int), ((0 : Int), ([], false))))).2).2).2).1) (((((x0.getD x4.toNat ((0 : Int), ((0 : Int), ((0 : Int), ([], false))))).2).2).2).2)).2.2.1), (((ltoWord ((x0.getD x4.toNat ((0 : Int), ((0 : Int), ((0 : Int), ([], false))))).1) (((x0.getD x4.toNat ((0 : Int), ((0 : Int), ((0 : Int), ([], false))))).2).1) ((((x0.getD x4.toNat ((0 : Int), ((0 : Int), ((0 : Int), ([], false))))).2).2).1) (((((x0.getD x4.toNat ((0 : Int), ((0 : Int), ((0 : Int), ([], false))))).2).2).2).1) (((((x0.getD x4.toNat ((0 : Int), ((0 : Int), ((0 : Int), ([], false))))).2).2).2).2)).2.2.2.1), ((ltoWord ((x0.getD x4.toNat ((0 : Int), ((0 : Int), ((0 : Int), ([], false))))).1) (((x0.getD x4.toNat ((0 : Int), ((0 : Int), ((0 : Int), ([], false))))).2).1) ((((x0.getD x4.toNat ((0 : Int), ((0 : Int), ((0 : Int), ([], false))))).2).2).1) (((((x0.getD x4.toNat ((0 : Int), ((0 : Int), ((0 : Int), ([], false))))).2).2).2).1) (((((x0.getD x4.toNat ((0 : Int), ((0 : Int), ((0 : Int), ([], false))))).2).2).2).2)).2.2.2.2))))), ()))) .fail) .fail) .fail) (.done (.exit 0) E_ltoWordS_0_0 (((), (), (), (), (), (), (), (), (), (), (), (), (), (), (), (), (), (), (), (), (), (), (), ()), (h0, ()))))
noncomputable abbrev V_ltoWordS_0 := (List (Int × Int × Int × (List (Int × ByteArray × ByteArray)) × Bool)) × (Int) × (List (Int × Int × Int × (List (Int × ByteArray × ByteArray)) × Bool))
noncomputable abbrev A_ltoWordS_0 := Nat × (List (Int × Int × Int × (List (Int × ByteArray × ByteArray)) × Bool))
noncomputable def fl_ltoWordS_0 : A_ltoWordS_0 := (99, ([] : List (Int × Int × Int × (List (Int × ByteArray × ByteArray)) × Bool)))
noncomputable def ss_ltoWordS_0 (x0 : List (Int × Int × Int × (List (Int × ByteArray × ByteArray)) × Bool)) (x4 : Int) (h0 : List (Int × Int × Int × (List (Int × ByteArray × ByteArray)) × Bool)) : V_ltoWordS_0 ⊕ A_ltoWordS_0 := (cond (decide (x4 < ((x0.length : Nat) : Int))) (cond (decide (0 ≤ x4 ∧ x4 < ((x0.length : Nat) : Int))) (cond (q_ltoWord ((x0.getD x4.toNat ((0 : Int), ((0 : Int), ((0 : Int), ([], false))))).1) (((x0.getD x4.toNat ((0 : Int), ((0 : Int), ((0 : Int), ([], false))))).2).1) ((((x0.getD x4.toNat ((0 : Int), ((0 : Int), ((0 : Int), ([], false))))).2).2).1) (((((x0.getD x4.toNat ((0 : Int), ((0 : Int), ((0 : Int), ([], false))))).2).2).2).1) (((((x0.getD x4.toNat ((0 : Int), ((0 : Int), ((0 : Int), ([], false))))).2).2).2).2)) (cond (decide (0 ≤ x4 ∧ x4 < ((h0.length : Nat) : Int))) (.inl (x0, IntKind.wrap .i64 (x4 + (1 : Int)), h0.set x4.toNat (((ltoWord ((x0.getD x4.toNat ((0 : Int), ((0 : Int), ((0 : Int), ([], false))))).1) (((x0.getD x4.toNat ((0 : Int), ((0 : Int), ((0 : Int), ([], false))))).2).1) ((((x0.getD x4.toNat ((0 : Int), ((0 : Int), ((0 : Int), ([], false))))).2).2).1) (((((x0.getD x4.toNat ((0 : Int), ((0 : Int), ((0 : Int), ([], false))))).2).2).2).1) (((((x0.getD x4.toNat ((0 : Int), ((0 : Int), ((0 : Int), ([], false))))).2).2).2).2)).1), (((ltoWord ((x0.getD x4.toNat ((0 : Int), ((0 : Int), ((0 : Int), ([], false))))).1) (((x0.getD x4.toNat ((0 : Int), ((0 : Int), ((0 : Int), ([], false))))).2).1) ((((x0.getD x4.toNat ((0 : Int), ((0 : Int), ((0 : Int), ([], false))))).2).2).1) (((((x0.getD x4.toNat ((0 : Int), ((0 : Int), ((0 : Int), ([], false))))).2).2).2).1) (((((x0.getD x4.toNat ((0 : Int), ((0 : Int), ((0 : Int), ([], false))))).2).2).2).2)).2.1), (((ltoWord ((x0.getD x4.toNat ((0 : Int), ((0 : Int), ((0 : Int), ([], false))))).1) (((x0.getD x4.toNat ((0 : Int), ((0 : Int), ((0 : Int), ([], false))))).2).1) ((((x0.getD x4.toNat ((0 : Int), ((0 : Int), ((0 : Int), ([], false))))).2).2).1) (((((x0.getD x4.toNat ((0 : Int), ((0 : Int), ((0 : Int), ([], false))))).2).2).2).1) (((((x0.getD x4.toNat ((0 : Int), ((0 : Int), ((0 : Int), ([], false))))).2).2).2).2)).2.2.1), (((ltoWord ((x0.getD x4.toNat ((0 : Int), ((0 : Int), ((0 : Int), ([], false))))).1) (((x0.getD x4.toNat ((0 : Int), ((0 : Int), ((0 : Int), ([], false))))).2).1) ((((x0.getD x4.toNat ((0 : Int), ((0 : Int), ((0 : Int), ([], false))))).2).2).1) (((((x0.getD x4.toNat ((0 : Int), ((0 : Int), ((0 : Int), ([], false))))).2).2).2).1) (((((x0.getD x4.toNat ((0 : Int), ((0 : Int), ((0 : Int), ([], false))))).2).2).2).2)).2.2.2.1), ((ltoWord ((x0.getD x4.toNat ((0 : Int), ((0 : Int), ((0 : Int), ([], false))))).1) (((x0.getD x4.toNat ((0 : Int), ((0 : Int), ((0 : Int), ([], false))))).2).1) ((((x0.getD x4.toNat ((0 : Int), ((0 : Int), ((0 : Int), ([], false))))).2).2).1) (((((x0.getD x4.toNat ((0 : Int), ((0 : Int), ((0 : Int), ([], false))))).2).2).2).1) (((((x0.getD x4.toNat ((0 : Int), ((0 : Int), ((0 : Int), ([], false))))).2).2).2).2)).2.2.2.2))))))) (.inr fl_ltoWordS_0)) (.inr fl_ltoWordS_0)) (.inr fl_ltoWordS_0)) (.inr (0, h0)))
noncomputable def it_ltoWordS_0 (x0 : List (Int × Int × Int × (List (Int × ByteArray × ByteArray)) × Bool)) (x4 : Int) (h0 : List (Int × Int × Int × (List (Int × ByteArray × ByteArray)) × Bool)) : A_ltoWordS_0 := itX (fun v : V_ltoWordS_0 => ss_ltoWordS_0 v.1 v.2.1 v.2.2) fl_ltoWordS_0 (x0, x4, h0)
noncomputable def ct_ltoWordS_0 (a : A_ltoWordS_0) : CT := (.br (a.1 == 0) (.done (.exit 0) E_ltoWordS_0_0 (((), (), (), (), (), (), (), (), (), (), (), (), (), (), (), (), (), (), (), (), (), (), (), ()), (a.2, ()))) .fail)
noncomputable def T_ltoWordS_0 (x0 : List (Int × Int × Int × (List (Int × ByteArray × ByteArray)) × Bool)) (x4 : Int) (h0 : List (Int × Int × Int × (List (Int × ByteArray × ByteArray)) × Bool)) : CT := ct_ltoWordS_0 (it_ltoWordS_0 x0 x4 h0)
noncomputable abbrev sp_ltoWordS_0 : S_ltoWordS_0.den → RT S_ltoWordS_0.den := fun d => st_ltoWordS_0 d.1.1 d.1.2.2.2.2.1 d.2.1
noncomputable abbrev pk_ltoWordS_0 (x0 : List (Int × Int × Int × (List (Int × ByteArray × ByteArray)) × Bool)) (x4 : Int) (h0 : List (Int × Int × Int × (List (Int × ByteArray × ByteArray)) × Bool)) : S_ltoWordS_0.den := ((x0, (), (), (), x4, (), (), (), (), (), (), (), (), (), (), (), (), (), (), (), (), (), (), ()), (h0, ()))
noncomputable def body_ltoWordS_0 : Code := ((loopsIn 0 (bodyOf Try.f45)).getD 0 (0, .skip)).2
theorem R_ltoWordS_0 (x0 : List (Int × Int × Int × (List (Int × ByteArray × ByteArray)) × Bool)) (x4 : Int) (h0 : List (Int × Int × Int × (List (Int × ByteArray × ByteArray)) × Bool)) : (T_ltoWordS_0 x0 x4 h0).val (D := S_ltoWordS_0.den) = .fail ∨ Runs sp_ltoWordS_0 (pk_ltoWordS_0 x0 x4 h0) (T_ltoWordS_0 x0 x4 h0).val := Runs.ofIt (step := sp_ltoWordS_0) (fun v : V_ltoWordS_0 => pk_ltoWordS_0 v.1 v.2.1 v.2.2) (ct := ct_ltoWordS_0) rfl (fun v => ((relB (relB (relB (relB rfl rfl) rfl) rfl) rfl) : (st_ltoWordS_0 v.1 v.2.1 v.2.2).val = relS (fun v : V_ltoWordS_0 => pk_ltoWordS_0 v.1 v.2.1 v.2.2) ct_ltoWordS_0 (ss_ltoWordS_0 v.1 v.2.1 v.2.2))) (fun a => ((cendB (cendD (by simp)) cendF) : CEnd _ (ct_ltoWordS_0 a))) (x0, x4, h0)
theorem rd_ltoWordS_0 : ∀ d, execC Try.prog tt S33 QF33 (fun _ _ => none) 0 body_ltoWordS_0 (S_ltoWordS_0.st d 0 []) (fun e s' => some (e, S_ltoWordS_0.cutE (kepts [] [(0, [3])]) e s')) = (sp_ltoWordS_0 d).opt 0 [] := by
  intro d
  kernel_rfl
noncomputable abbrev say_ltoWordS_0 : St → Option Tree := S_ltoWordS_0.say 0 [] [] (fun d => T_ltoWordS_0 d.1.1 d.1.2.2.2.2.1 d.2.1)
theorem lw_ltoWordS_0 : LoopWp Try.prog say_ltoWordS_0 body_ltoWordS_0 := SS.wp G33 (fun _ _ => none) (by rw [show loopsIn 0 body_ltoWordS_0 = [] by kernel_rfl]; simp) S_ltoWordS_0 0 [] (kepts [] [(0, [3])]) [] sp_ltoWordS_0 rd_ltoWordS_0 _ (fun d => R_ltoWordS_0 d.1.1 d.1.2.2.2.2.1 d.2.1)
noncomputable def ltoWordS (a0 : List (Int × Int × Int × (List (Int × ByteArray × ByteArray)) × Bool)) : List (Int × Int × Int × (List (Int × ByteArray × ByteArray)) × Bool) := ((it_ltoWordS_0 a0 (0 : Int) (List.replicate ((a0.length : Nat) : Int).toNat ((0 : Int), ((0 : Int), ((0 : Int), ([], false)))))).2)
noncomputable abbrev e_ltoWordS (r : List (Int × Int × Int × (List (Int × ByteArray × ByteArray)) × Bool)) : AV × List AObj := ((.t true (.sl (.pair (.int .i64) (.pair (.int .i64) (.pair (.int .i64) (.pair (.sl (.pair (.int .i64) (.pair .str .str))) .bool))))) r), [])
noncomputable abbrev g_ltoWordS : pshsDen P_ltoWordS → AV × List AObj := fun d => e_ltoWordS (ltoWordS d.1)
noncomputable def q_ltoWordS (a0 : List (Int × Int × Int × (List (Int × ByteArray × ByteArray)) × Bool)) : Bool := (decide (0 ≤ ((a0.length : Nat) : Int) ∧ ((a0.length : Nat) : Int) = ((a0.length : Nat) : Int) ∧ ((a0.length : Nat) : Int).toNat * 56 ≤ MAXB ∧ ((a0.length : Nat) : Int) ≤ 9223372036854775807)) && ((it_ltoWordS_0 a0 (0 : Int) (List.replicate ((a0.length : Nat) : Int).toNat ((0 : Int), ((0 : Int), ((0 : Int), ([], false)))))).1 == 0)
noncomputable abbrev pre_ltoWordS : pshsDen P_ltoWordS → Bool := fun d => q_ltoWordS d.1
theorem runA_ltoWordS (a0 : List (Int × Int × Int × (List (Int × ByteArray × ByteArray)) × Bool)) (hp : ((decide (0 ≤ ((a0.length : Nat) : Int) ∧ ((a0.length : Nat) : Int) = ((a0.length : Nat) : Int) ∧ ((a0.length : Nat) : Int).toNat * 56 ≤ MAXB ∧ ((a0.length : Nat) : Int) ≤ 9223372036854775807)) && ((it_ltoWordS_0 a0 (0 : Int) (List.replicate ((a0.length : Nat) : Int).toNat ((0 : Int), ((0 : Int), ((0 : Int), ([], false)))))).1 == 0)) = true) : runP true Try.prog tt S33 QF33 (fun b => match b with | 0 => say_ltoWordS_0 | _ => fun _ => none) Try.f45 (argsMk P_ltoWordS (a0, ())) = some (g_ltoWordS (a0, ())) := by
  refine Eq.trans (b := (cond (decide (0 ≤ ((a0.length : Nat) : Int) ∧ ((a0.length : Nat) : Int) = ((a0.length : Nat) : Int) ∧ ((a0.length : Nat) : Int).toNat * 56 ≤ MAXB ∧ ((a0.length : Nat) : Int) ≤ 9223372036854775807)) (cond ((it_ltoWordS_0 a0 (0 : Int) (List.replicate ((a0.length : Nat) : Int).toNat ((0 : Int), ((0 : Int), ((0 : Int), ([], false)))))).1 == 0) (some (e_ltoWordS ((it_ltoWordS_0 a0 (0 : Int) (List.replicate ((a0.length : Nat) : Int).toNat ((0 : Int), ((0 : Int), ((0 : Int), ([], false)))))).2))) none) none)) (by kernel_rfl) ?_
  exact (cndT (andL hp) (fun _h => (fun hp => (cndT hp (fun _h => rfl))) (andR hp)))
theorem run_ltoWordS : ∀ d, pre_ltoWordS d = true → runP true Try.prog tt S33 QF33 (fun b => match b with | 0 => say_ltoWordS_0 | _ => fun _ => none) Try.f45 (argsMk P_ltoWordS d) = some (g_ltoWordS d) := fun d hp => runA_ltoWordS d.1 hp
theorem c_ltoWordS : PContract Try.prog 45 (sumOf P_ltoWordS pre_ltoWordS g_ltoWordS) := PContract.of_data true G33 (fn := Try.f45) (by kernel_rfl) (L := fun b => match b with | 0 => say_ltoWordS_0 | _ => fun _ => none) (by rw [show loopsIn 0 (bodyOf Try.f45) = [(0, body_ltoWordS_0)] by kernel_rfl]; intro p hp; simp only [List.mem_singleton] at hp; subst hp; exact lw_ltoWordS_0) P_ltoWordS pre_ltoWordS g_ltoWordS run_ltoWordS
noncomputable def S34 : Tab := Tab.add S33 45 (lift (sumOf P_ltoWordS pre_ltoWordS g_ltoWordS))
noncomputable def QF34 : FuncId → Bool := qadd QF33 45
theorem G34 : Good Try.prog tt S34 QF34 := G33.addQ c_ltoWordS ⟨Try.f45, by kernel_rfl, by kernel_rfl, by kernel_rfl⟩ (fun _ => rfl)

/-! 80 loop.example/g00244/laws.toOrder -/
noncomputable abbrev P_ltoOrder : List PSh := [.agg [(.int .i64), (.sl (.pair (.int .i64) (.pair .str .str)))]]
noncomputable def ltoOrder (a0 : Int) (a1 : List (Int × ByteArray × ByteArray)) : Int × List (Int × ByteArray × ByteArray) := (a0, (ltoOpS a1))
noncomputable abbrev e_ltoOrder (r : Int × List (Int × ByteArray × ByteArray)) : AV × List AObj := ((.agg [(.t true (.int .i64) r.1), (.t true (.sl (.pair (.int .i64) (.pair .str .str))) r.2)]), [])
noncomputable abbrev g_ltoOrder : pshsDen P_ltoOrder → AV × List AObj := fun d => e_ltoOrder (ltoOrder d.1.1 d.1.2.1)
noncomputable def q_ltoOrder (a0 : Int) (a1 : List (Int × ByteArray × ByteArray)) : Bool := q_ltoOpS a1
noncomputable abbrev pre_ltoOrder : pshsDen P_ltoOrder → Bool := fun d => q_ltoOrder d.1.1 d.1.2.1
theorem runA_ltoOrder (a0 : Int) (a1 : List (Int × ByteArray × ByteArray)) (hp : (q_ltoOpS a1) = true) : runP true Try.prog tt S34 QF34 (fun _ _ => none) Try.f80 (argsMk P_ltoOrder ((a0, (a1, ())), ())) = some (g_ltoOrder ((a0, (a1, ())), ())) := by
  refine Eq.trans (b := (cond (q_ltoOpS a1) (some (e_ltoOrder (a0, (ltoOpS a1)))) none)) (by kernel_rfl) ?_
  exact (cndT hp (fun _h => rfl))
theorem run_ltoOrder : ∀ d, pre_ltoOrder d = true → runP true Try.prog tt S34 QF34 (fun _ _ => none) Try.f80 (argsMk P_ltoOrder d) = some (g_ltoOrder d) := fun d hp => runA_ltoOrder d.1.1 d.1.2.1 hp
theorem c_ltoOrder : PContract Try.prog 80 (sumOf P_ltoOrder pre_ltoOrder g_ltoOrder) := PContract.of_data true G34 (fn := Try.f80) (by kernel_rfl) (L := fun _ _ => none) (by rw [show loopsIn 0 (bodyOf Try.f80) = [] by kernel_rfl]; simp) P_ltoOrder pre_ltoOrder g_ltoOrder run_ltoOrder
noncomputable def S35 : Tab := Tab.add S34 80 (lift (sumOf P_ltoOrder pre_ltoOrder g_ltoOrder))
noncomputable def QF35 : FuncId → Bool := qadd QF34 80
theorem G35 : Good Try.prog tt S35 QF35 := G34.addQ c_ltoOrder ⟨Try.f80, by kernel_rfl, by kernel_rfl, by kernel_rfl⟩ (fun _ => rfl)

/-! 46 loop.example/g00244/laws.toOrderS -/
noncomputable abbrev P_ltoOrderS : List PSh := [.t (.sl (.pair (.int .i64) (.sl (.pair (.int .i64) (.pair .str .str)))))]
noncomputable abbrev S_ltoOrderS_0 : SS := ⟨[.t false (.sl (.pair (.int .i64) (.sl (.pair (.int .i64) (.pair .str .str))))), .junk, .junk, .all 0 2, .t true (.int .i64), .junk, .junk, .junk, .junk, .junk, .junk, .junk, .junk, .junk, .junk, .junk, .junk, .junk, .junk, .junk, .junk, .junk, .junk], [.rows 80 true (.pair (.int .i64) (.sl (.pair (.int .i64) (.pair .str .str))))]⟩
noncomputable abbrev E_ltoOrderS_0_0 : SS := ⟨[.junk, .junk, .junk, .all 0 2, .junk, .junk, .junk, .junk, .junk, .junk, .junk, .junk, .junk, .junk, .junk, .junk, .junk, .junk, .junk, .junk, .junk, .junk, .junk], [.rows 80 true (.pair (.int .i64) (.sl (.pair (.int .i64) (.pair .str .str))))]⟩
noncomputable def st_ltoOrderS_0 (x0 : List (Int × List (Int × ByteArray × ByteArray))) (x4 : Int) (h0 : List (Int × List (Int × ByteArray × ByteArray))) : RT S_ltoOrderS_0.den := (.br (decide (x4 < ((x0.length : Nat) : Int))) (.br (decide (0 ≤ x4 ∧ x4 < ((x0.length : Nat) : Int))) (.br (q_ltoOrder ((x0.getD x4.toNat ((0 : Int), [])).1) ((x0.getD x4.toNat ((0 : Int), [])).2)) (.br (decide (0 ≤ x4 ∧ x4 < ((h0.length : Nat) : Int))) (.next ((x0, (), (), (), IntKind.wrap .i64 (x4 + (1 : Int)), (), (), (), (), (), (), (), (), (), (), (), (), (), (), (), (), (), (), ()), (h0.set x4.toNat (((ltoOrder ((x0.getD x4.toNat ((0 : Int), [])).1) ((x0.getD x4.toNat ((0 : Int), [])).2)).1), ((ltoOrder ((x0.getD x4.toNat ((0 : Int), [])).1) ((x0.getD x4.toNat ((0 : Int), [])).2)).2)), ()))) .fail) .fail) .fail) (.done (.exit 0) E_ltoOrderS_0_0 (((), (), (), (), (), (), (), (), (), (), (), (), (), (), (), (), (), (), (), (), (), (), (), ()), (h0, ()))))
noncomputable abbrev V_ltoOrderS_0 := (List (Int × List (Int × ByteArray × ByteArray))) × (Int) × (List (Int × List (Int × ByteArray × ByteArray)))
noncomputable abbrev A_ltoOrderS_0 := Nat × (List (Int × List (Int × ByteArray × ByteArray)))
noncomputable def fl_ltoOrderS_0 : A_ltoOrderS_0 := (99, ([] : List (Int × List (Int × ByteArray × ByteArray))))
noncomputable def ss_ltoOrderS_0 (x0 : List (Int × List (Int × ByteArray × ByteArray))) (x4 : Int) (h0 : List (Int × List (Int × ByteArray × ByteArray))) : V_ltoOrderS_0 ⊕ A_ltoOrderS_0 := (cond (decide (x4 < ((x0.length : Nat) : Int))) (cond (decide (0 ≤ x4 ∧ x4 < ((x0.length : Nat) : Int))) (cond (q_ltoOrder ((x0.getD x4.toNat ((0 : Int), [])).1) ((x0.getD x4.toNat ((0 : Int), [])).2)) (cond (decide (0 ≤ x4 ∧ x4 < ((h0.length : Nat) : Int))) (.inl (x0, IntKind.wrap .i64 (x4 + (1 : Int)), h0.set x4.toNat (((ltoOrder ((x0.getD x4.toNat ((0 : Int), [])).1) ((x0.getD x4.toNat ((0 : Int), [])).2)).1), ((ltoOrder ((x0.getD x4.toNat ((0 : Int), [])).1) ((x0.getD x4.toNat ((0 : Int), [])).2)).2)))) (.inr fl_ltoOrderS_0)) (.inr fl_ltoOrderS_0)) (.inr fl_ltoOrderS_0)) (.inr (0, h0)))
noncomputable def it_ltoOrderS_0 (x0 : List (Int × List (Int × ByteArray × ByteArray))) (x4 : Int) (h0 : List (Int × List (Int × ByteArray × ByteArray))) : A_ltoOrderS_0 := itX (fun v : V_ltoOrderS_0 => ss_ltoOrderS_0 v.1 v.2.1 v.2.2) fl_ltoOrderS_0 (x0, x4, h0)
noncomputable def ct_ltoOrderS_0 (a : A_ltoOrderS_0) : CT := (.br (a.1 == 0) (.done (.exit 0) E_ltoOrderS_0_0 (((), (), (), (), (), (), (), (), (), (), (), (), (), (), (), (), (), (), (), (), (), (), (), ()), (a.2, ()))) .fail)
noncomputable def T_ltoOrderS_0 (x0 : List (Int × List (Int × ByteArray × ByteArray))) (x4 : Int) (h0 : List (Int × List (Int × ByteArray × ByteArray))) : CT := ct_ltoOrderS_0 (it_ltoOrderS_0 x0 x4 h0)
noncomputable abbrev sp_ltoOrderS_0 : S_ltoOrderS_0.den → RT S_ltoOrderS_0.den := fun d => st_ltoOrderS_0 d.1.1 d.1.2.2.2.2.1 d.2.1
noncomputable abbrev pk_ltoOrderS_0 (x0 : List (Int × List (Int × ByteArray × ByteArray))) (x4 : Int) (h0 : List (Int × List (Int × ByteArray × ByteArray))) : S_ltoOrderS_0.den := ((x0, (), (), (), x4, (), (), (), (), (), (), (), (), (), (), (), (), (), (), (), (), (), (), ()), (h0, ()))
noncomputable def body_ltoOrderS_0 : Code := ((loopsIn 0 (bodyOf Try.f46)).getD 0 (0, .skip)).2
theorem R_ltoOrderS_0 (x0 : List (Int × List (Int × ByteArray × ByteArray))) (x4 : Int) (h0 : List (Int × List (Int × ByteArray × ByteArray))) : (T_ltoOrderS_0 x0 x4 h0).val (D := S_ltoOrderS_0.den) = .fail ∨ Runs sp_ltoOrderS_0 (pk_ltoOrderS_0 x0 x4 h0) (T_ltoOrderS_0 x0 x4 h0).val := Runs.ofIt (step := sp_ltoOrderS_0) (fun v : V_ltoOrderS_0 => pk_ltoOrderS_0 v.1 v.2.1 v.2.2) (ct := ct_ltoOrderS_0) rfl (fun v => ((relB (relB (relB (relB rfl rfl) rfl) rfl) rfl) : (st_ltoOrderS_0 v.1 v.2.1 v.2.2).val = relS (fun v : V_ltoOrderS_0 => pk_ltoOrderS_0 v.1 v.2.1 v.2.2) ct_ltoOrderS_0 (ss_ltoOrderS_0 v.1 v.2.1 v.2.2))) (fun a => ((cendB (cendD (by simp)) cendF) : CEnd _ (ct_ltoOrderS_0 a))) (x0, x4, h0)
theorem rd_ltoOrderS_0 : ∀ d, execC Try.prog tt S35 QF35 (fun _ _ => none) 0 body_ltoOrderS_0 (S_ltoOrderS_0.st d 0 []) (fun e s' => some (e, S_ltoOrderS_0.cutE (kepts [] [(0, [3])]) e s')) = (sp_ltoOrderS_0 d).opt 0 [] := by
  intro d
  kernel_rfl
noncomputable abbrev say_ltoOrderS_0 : St → Option Tree := S_ltoOrderS_0.say 0 [] [] (fun d => T_ltoOrderS_0 d.1.1 d.1.2.2.2.2.1 d.2.1)
theorem lw_ltoOrderS_0 : LoopWp Try.prog say_ltoOrderS_0 body_ltoOrderS_0 := SS.wp G35 (fun _ _ => none) (by rw [show loopsIn 0 body_ltoOrderS_0 = [] by kernel_rfl]; simp) S_ltoOrderS_0 0 [] (kepts [] [(0, [3])]) [] sp_ltoOrderS_0 rd_ltoOrderS_0 _ (fun d => R_ltoOrderS_0 d.1.1 d.1.2.2.2.2.1 d.2.1)
noncomputable def ltoOrderS (a0 : List (Int × List (Int × ByteArray × ByteArray))) : List (Int × List (Int × ByteArray × ByteArray)) := ((it_ltoOrderS_0 a0 (0 : Int) (List.replicate ((a0.length : Nat) : Int).toNat ((0 : Int), []))).2)
noncomputable abbrev e_ltoOrderS (r : List (Int × List (Int × ByteArray × ByteArray))) : AV × List AObj := ((.t true (.sl (.pair (.int .i64) (.sl (.pair (.int .i64) (.pair .str .str))))) r), [])
noncomputable abbrev g_ltoOrderS : pshsDen P_ltoOrderS → AV × List AObj := fun d => e_ltoOrderS (ltoOrderS d.1)
noncomputable def q_ltoOrderS (a0 : List (Int × List (Int × ByteArray × ByteArray))) : Bool := (decide (0 ≤ ((a0.length : Nat) : Int) ∧ ((a0.length : Nat) : Int) = ((a0.length : Nat) : Int) ∧ ((a0.length : Nat) : Int).toNat * 32 ≤ MAXB ∧ ((a0.length : Nat) : Int) ≤ 9223372036854775807)) && ((it_ltoOrderS_0 a0 (0 : Int) (List.replicate ((a0.length : Nat) : Int).toNat ((0 : Int), []))).1 == 0)
noncomputable abbrev pre_ltoOrderS : pshsDen P_ltoOrderS → Bool := fun d => q_ltoOrderS d.1
theorem runA_ltoOrderS (a0 : List (Int × List (Int × ByteArray × ByteArray))) (hp : ((decide (0 ≤ ((a0.length : Nat) : Int) ∧ ((a0.length : Nat) : Int) = ((a0.length : Nat) : Int) ∧ ((a0.length : Nat) : Int).toNat * 32 ≤ MAXB ∧ ((a0.length : Nat) : Int) ≤ 9223372036854775807)) && ((it_ltoOrderS_0 a0 (0 : Int) (List.replicate ((a0.length : Nat) : Int).toNat ((0 : Int), []))).1 == 0)) = true) : runP true Try.prog tt S35 QF35 (fun b => match b with | 0 => say_ltoOrderS_0 | _ => fun _ => none) Try.f46 (argsMk P_ltoOrderS (a0, ())) = some (g_ltoOrderS (a0, ())) := by
  refine Eq.trans (b := (cond (decide (0 ≤ ((a0.length : Nat) : Int) ∧ ((a0.length : Nat) : Int) = ((a0.length : Nat) : Int) ∧ ((a0.length : Nat) : Int).toNat * 32 ≤ MAXB ∧ ((a0.length : Nat) : Int) ≤ 9223372036854775807)) (cond ((it_ltoOrderS_0 a0 (0 : Int) (List.replicate ((a0.length : Nat) : Int).toNat ((0 : Int), []))).1 == 0) (some (e_ltoOrderS ((it_ltoOrderS_0 a0 (0 : Int) (List.replicate ((a0.length : Nat) : Int).toNat ((0 : Int), []))).2))) none) none)) (by kernel_rfl) ?_
  exact (cndT (andL hp) (fun _h => (fun hp => (cndT hp (fun _h => rfl))) (andR hp)))
theorem run_ltoOrderS : ∀ d, pre_ltoOrderS d = true → runP true Try.prog tt S35 QF35 (fun b => match b with | 0 => say_ltoOrderS_0 | _ => fun _ => none) Try.f46 (argsMk P_ltoOrderS d) = some (g_ltoOrderS d) := fun d hp => runA_ltoOrderS d.1 hp
theorem c_ltoOrderS : PContract Try.prog 46 (sumOf P_ltoOrderS pre_ltoOrderS g_ltoOrderS) := PContract.of_data true G35 (fn := Try.f46) (by kernel_rfl) (L := fun b => match b with | 0 => say_ltoOrderS_0 | _ => fun _ => none) (by rw [show loopsIn 0 (bodyOf Try.f46) = [(0, body_ltoOrderS_0)] by kernel_rfl]; intro p hp; simp only [List.mem_singleton] at hp; subst hp; exact lw_ltoOrderS_0) P_ltoOrderS pre_ltoOrderS g_ltoOrderS run_ltoOrderS
noncomputable def S36 : Tab := Tab.add S35 46 (lift (sumOf P_ltoOrderS pre_ltoOrderS g_ltoOrderS))
noncomputable def QF36 : FuncId → Bool := qadd QF35 46
theorem G36 : Good Try.prog tt S36 QF36 := G35.addQ c_ltoOrderS ⟨Try.f46, by kernel_rfl, by kernel_rfl, by kernel_rfl⟩ (fun _ => rfl)


end Go.Proofs.Ytcofibhklbfgoaa.Eng
