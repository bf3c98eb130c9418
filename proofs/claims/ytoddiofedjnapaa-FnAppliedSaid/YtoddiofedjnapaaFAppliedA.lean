/- What the functions that FnApplied reaches compute, and that it answers true. -/
import Derived.Test.YtoddiofedjnapaaT
import Derived.Test.YtoddiofedjnapaaRows
import Derived.Test.YtoddiofedjnapaaE45
import Derived.Shelf.Spec.SlicesInsertGrow
namespace Go.Proofs.Ytoddiofedjnapaa.Eng
open Go Go.RowKit
set_option linter.unusedSimpArgs false
set_option linter.unusedVariables false
set_option maxRecDepth 10000
noncomputable def S0 : Tab := fun _ => none
noncomputable def QF0 : FuncId → Bool := fun _ => false
theorem G0 : Good Try.prog tt S0 QF0 := Good.start tt_ok (by kernel_rfl)
/-! Plain laws: order of bytes, keys, ops. -/
theorem bytesLess_irrefl : ∀ a : List UInt8, Op.bytesLess a a = false := by
  intro a
  induction a with
  | nil => rfl
  | cons x a ih => simp only [Op.bytesLess, ih, Bool.and_false, Bool.or_false, decide_eq_false_iff_not]; exact UInt8.lt_irrefl x
theorem bytesLess_ge : ∀ a b : List UInt8, (!(Op.bytesLess a b)) = (Op.bytesLess b a || b == a) := by
  intro a
  induction a with
  | nil => intro b; cases b <;> simp [Op.bytesLess]
  | cons x a ih =>
    intro b
    cases b with
    | nil => simp [Op.bytesLess]
    | cons y b =>
      simp only [Op.bytesLess]
      by_cases h1 : x < y
      · have h2 : ¬ y < x := fun h => UInt8.lt_irrefl _ (UInt8.lt_trans h1 h)
        have h3 : (y == x) = false := by rw [beq_eq_false_iff_ne]; intro h; subst h; exact h2 h1
        have h4 : (y :: b == x :: a) = false := by rw [List.cons_beq_cons, h3, Bool.false_and]
        simp [h1, h2, h3, h4]
      · by_cases h5 : x = y
        · subst h5
          have h6 : (x :: b == x :: a) = (b == a) := by rw [List.cons_beq_cons]; simp
          have := ih b
          simp only [h1, decide_false, Bool.false_or, beq_self_eq_true, Bool.true_and, h6, this]
        · have h7 : y < x := by
            rcases Nat.lt_trichotomy x.toNat y.toNat with h | h | h
            · exact absurd (UInt8.lt_iff_toNat_lt.2 h) h1
            · exact absurd (UInt8.toNat_inj.1 h) h5
            · exact UInt8.lt_iff_toNat_lt.2 h
          have h8 : (x == y) = false := by rw [beq_eq_false_iff_ne]; exact h5
          simp [h1, h7, h8]
theorem allF_congr {p q : Nat → Bool} : ∀ k i, (∀ j, i ≤ j → j < i + k → p j = q j) → allF p k i = allF q k i := by
  intro k
  induction k with
  | zero => intro i h; rfl
  | succ k ih => intro i h; simp only [allF]; rw [h i (Nat.le_refl _) (by omega), ih (i + 1) (fun j h1 h2 => h j (by omega) (by omega))]
theorem allF_same {p : Nat → Bool} (k i : Nat) (h : ∀ j, i ≤ j → j < i + k → p j = true) : allF p k i = true := (allF_true k i).2 h
theorem szN_all {f : Nat → Int → Int} {Q : Nat → Prop} {M : Int} : ∀ (k i : Nat) (b : Int), (∀ j b, i ≤ j → j < i + k → 0 ≤ b → b ≤ M → 0 ≤ f j b → Q j ∧ f j b ≤ b) → 0 ≤ b → b ≤ M → isInl (szN f k i b) = true →
    (∀ j, i ≤ j → j < i + k → Q j) ∧ 0 ≤ getInl (-1) (szN f k i b) ∧ getInl (-1) (szN f k i b) ≤ b := by
  intro k
  induction k with
  | zero => intro i b hf h1 h2 h3; exact ⟨fun j hj hk => by omega, h1, Int.le_refl _⟩
  | succ k ih =>
    intro i b hf h1 h2 h3
    have e : szN f (k + 1) i b = cond (decide (f i b < 0)) (.inr ()) (szN f k (i + 1) (f i b)) := by
      simp only [szN, loopN]
      cases decide (f i b < 0) <;> rfl
    rw [e] at h3 ⊢
    cases hd : decide (f i b < 0) with
    | true => rw [hd] at h3; cases h3
    | false =>
      rw [hd] at h3
      simp only [cond_false] at h3 ⊢
      have h0 : 0 ≤ f i b := by have := of_decide_eq_false hd; omega
      obtain ⟨q1, q2⟩ := hf i b (Nat.le_refl _) (by omega) h1 h2 h0
      obtain ⟨r1, r2, r3⟩ := ih (i + 1) (f i b) (fun j b hj hk => hf j b (by omega) (by omega)) h0 (by omega) h3
      refine ⟨fun j hj hk => ?_, r2, by omega⟩
      by_cases ej : j = i
      · exact ej ▸ q1
      · exact r1 j (by omega) (by omega)
noncomputable abbrev OpT : Type := Int × ByteArray × ByteArray
noncomputable def dOp : Int × ByteArray × ByteArray := ((0 : Int), ((⟨#[]⟩ : ByteArray), (⟨#[]⟩ : ByteArray)))
noncomputable def okOp (o : Int × ByteArray × ByteArray) : Bool := okS o.2.1 && okS o.2.2
noncomputable def okOps (l : List (Int × ByteArray × ByteArray)) : Bool := okL l && l.all okOp
theorem okOps_at {l : List (Int × ByteArray × ByteArray)} (h : okOps l = true) (i : Nat) (hi : i < l.length) : okS (l.getD i dOp).2.1 = true ∧ okS (l.getD i dOp).2.2 = true := by
  simp only [okOps, Bool.and_eq_true, List.all_eq_true] at h
  have := h.2 (l.getD i dOp) (by simp [List.getD_eq_getElem?_getD, hi])
  simpa [okOp] using this
theorem okOps_len {l : List (Int × ByteArray × ByteArray)} (h : okOps l = true) : l.length ≤ 1048576 := by
  simp only [okOps, Bool.and_eq_true] at h
  exact okL_le h.1
noncomputable def bigS (s : ByteArray) : Bool := decide (s.size ≤ 9223372036854775807)
noncomputable def bigOps (l : List (Int × ByteArray × ByteArray)) : Bool := decide (l.length ≤ 9223372036854775807) && l.all (fun o => bigS o.2.1 && bigS o.2.2)
theorem bigOps_at {l : List (Int × ByteArray × ByteArray)} (h : bigOps l = true) (i : Nat) (hi : i < l.length) : bigS (l.getD i dOp).2.1 = true ∧ bigS (l.getD i dOp).2.2 = true := by
  simp only [bigOps, Bool.and_eq_true, List.all_eq_true] at h
  exact h.2 (l.getD i dOp) (by simp [List.getD_eq_getElem?_getD, hi])
theorem okOps_of {l : List (Int × ByteArray × ByteArray)} (h1 : l.length ≤ 1048576) (h2 : ∀ i, i < l.length → okS (l.getD i dOp).2.1 = true ∧ okS (l.getD i dOp).2.2 = true) : okOps l = true := by
  simp only [okOps, okL, Bool.and_eq_true, decide_eq_true_eq, List.all_eq_true]
  refine ⟨h1, fun o ho => ?_⟩
  obtain ⟨i, hi, rfl⟩ := List.getElem_of_mem ho
  have := h2 i hi
  simp only [List.getD_eq_getElem?_getD, List.getElem?_eq_getElem hi, Option.getD_some] at this
  simp [okOp, this.1, this.2]
theorem ba_beq (a b : ByteArray) : (a.toList == b.toList) = decide (a = b) := by
  rw [ByteArray.toList_eq, ByteArray.toList_eq]
  by_cases h : a = b
  · subst h; simp
  · rw [decide_eq_false h, beq_eq_false_iff_ne]
    intro e
    exact h (by cases a; cases b; simp at e; rw [e])
theorem bigOps_len {l : List (Int × ByteArray × ByteArray)} (h : bigOps l = true) : l.length ≤ 9223372036854775807 := by
  simp only [bigOps, Bool.and_eq_true, decide_eq_true_eq] at h; exact h.1
theorem okOps_okL {l : List (Int × ByteArray × ByteArray)} (h : okOps l = true) : okL l = true := by
  simp only [okOps, Bool.and_eq_true] at h; exact h.1
theorem bigOps_of {l : List (Int × ByteArray × ByteArray)} (h : bigT (.sl (.pair (.int .i64) (.pair .str .str))) l = true) : bigOps l = true := by
  have h : (decide (l.length ≤ maxLen) && l.all fun o => (Lit.int .i64 o.1).wf && (decide (o.2.1.size ≤ maxLen) && decide (o.2.2.size ≤ maxLen))) = true := h
  have hm : maxLen = 9223372036854775807 := by decide
  rw [hm] at h
  simp only [Bool.and_eq_true, decide_eq_true_eq, List.all_eq_true] at h
  simp only [bigOps, bigS, Bool.and_eq_true, decide_eq_true_eq, List.all_eq_true]
  exact ⟨h.1, fun o ho => (h.2 o ho).2⟩
theorem bigRec_ops {k t : Int} {l : List (Int × ByteArray × ByteArray)} (h : bigT (.pair (.int .i64) (.pair (.int .i64) (.sl (.pair (.int .i64) (.pair .str .str))))) (k, (t, l)) = true) : bigOps l = true := by
  have hb : ((Lit.int .i64 k).wf && ((Lit.int .i64 t).wf && bigT (.sl (.pair (.int .i64) (.pair .str .str))) l)) = true := h
  rw [Bool.and_eq_true, Bool.and_eq_true] at hb
  exact bigOps_of hb.2.2
/-- The high groups of a number, and what is left. -/
noncomputable def hiF (g : Int → Int) : Nat → Int → List Int × Int
  | 0, x => ([], x)
  | k + 1, x => cond (decide (x > 127)) (g x :: (hiF g k (Int.fdiv x (2 ^ 7))).1, (hiF g k (Int.fdiv x (2 ^ 7))).2) ([], x)
theorem fdiv128 (x : Int) : Int.fdiv x (2 ^ 7) = x / 128 := by
  rw [show (2 : Int) ^ 7 = 128 from rfl, Int.fdiv_eq_ediv_of_nonneg _ (by decide)]
theorem hiF_small (g : Int → Int) (k : Nat) : ∀ x : Int, 0 ≤ x → x < 128 ^ (k + 1) → 0 ≤ (hiF g k x).2 ∧ (hiF g k x).2 ≤ 127 := by
  induction k with
  | zero => intro x h0 h1; simp only [hiF]; exact ⟨h0, by rw [show (128 : Int) ^ (0 + 1) = 128 from rfl] at h1; omega⟩
  | succ k ih =>
    intro x h0 h1
    simp only [hiF]
    by_cases hx : x > 127
    · simp only [decide_eq_true hx, cond_true, fdiv128]
      rw [Int.pow_succ] at h1
      exact ih (x / 128) (by omega) (by omega)
    · simp only [decide_eq_false hx, cond_false]
      exact ⟨h0, by omega⟩
theorem hiF_len (g : Int → Int) (k : Nat) : ∀ x : Int, (hiF g k x).1.length ≤ k := by
  induction k with
  | zero => intro x; simp [hiF]
  | succ k ih =>
    intro x
    simp only [hiF]
    cases decide (x > 127) with
    | true => simp; exact ih _
    | false => simp
noncomputable def gNum (x : Int) : Int := IntKind.wrap .u8 (ior .i64 (iand .i64 x (127 : Int)) (128 : Int))
noncomputable def gNum' (x : Int) : Int := IntKind.wrap .u8 (ior .i64 (128 : Int) (iand .i64 x (127 : Int)))
theorem gNum_same : gNum' = gNum := by
  funext x
  simp only [gNum, gNum', ior]
  rw [BitVec.or_comm]
theorem nX_is : ∃ f : Int → List Int × Int, ∀ x, f x = hiF gNum 4 x := ⟨_, fun _ => rfl⟩
/-- The same, not to be unfolded. -/
noncomputable def nX : Int → List Int × Int := Classical.choose nX_is
theorem nX_eq (x : Int) : nX x = hiF gNum 4 x := Classical.choose_spec nX_is x
theorem nX_eq' (x : Int) : nX x = hiF gNum' 4 x := by rw [gNum_same]; exact nX_eq x
theorem nX_len (x : Int) : (nX x).1.length ≤ 4 := by rw [nX_eq]; exact hiF_len gNum 4 x
/-- The bytes of a number. -/
noncomputable def numB (x : Int) : List Int := (nX x).1 ++ [IntKind.wrap .u8 (nX x).2]
theorem numB_len (x : Int) : (numB x).length ≤ 5 := by
  have := nX_len x
  simp [numB]; omega
noncomputable def clampN (n : Int) : Int := if n > 1000000000 then 1000000000 else if n < 0 then 0 else n
noncomputable def textB (s : ByteArray) : List Int := numB (s.size : Int) ++ strInts s
noncomputable def opB (o : Int × ByteArray × ByteArray) : List Int := numB (clampN o.1) ++ (textB o.2.1 ++ textB o.2.2)
theorem clampN_of {n : Int} (h0 : 0 ≤ n) (h1 : n ≤ 1000000000) : clampN n = n := by simp only [clampN]; split <;> (try split) <;> omega
theorem strInts_len (s : ByteArray) : (strInts s).length = s.size := by rw [strInts, List.length_map, Array.length_toList]; rfl
theorem textB_len (s : ByteArray) : (textB s).length ≤ 5 + s.size := by
  have := numB_len (s.size : Int)
  simp [textB, strInts_len]; omega

noncomputable def clampI (x : Int) : Int := if (if (1000000000 : Int) < x then (1000000000 : Int) else x) > (0 : Int) then (if (1000000000 : Int) < x then (1000000000 : Int) else x) else (0 : Int)
theorem clampI_eq (x : Int) : clampI x = clampN x := by
  simp only [clampI, clampN]
  split <;> split <;> (try split) <;> omega
theorem clampN_range (x : Int) : 0 ≤ clampN x ∧ clampN x ≤ 1000000000 := by
  simp only [clampN]
  split <;> (try split) <;> omega
theorem clampI_range (x : Int) : 0 ≤ clampI x ∧ clampI x ≤ 1000000000 := by rw [clampI_eq]; exact clampN_range x

noncomputable def digB (x : Int) : ByteArray := (⟨([IntKind.wrap .u8 (IntKind.wrap .i64 ((48 : Int) + (Int.tmod x (10 : Int))))].map fun n => UInt8.ofNat n.toNat).toArray⟩ : ByteArray)
theorem digB_size (x : Int) : (digB x).size = 1 := rfl
/-- A number's digits. -/
noncomputable def txtN : Nat → Int → ByteArray → ByteArray
  | 0, _, s => s
  | k + 1, x, s => cond (decide (x > 0)) (txtN k (IntKind.wrap .i64 (Int.tdiv x (10 : Int))) (digB x ++ s)) s
theorem txtN_len : ∀ (k : Nat) (x : Int) (s : ByteArray), (txtN k x s).size ≤ k + s.size := by
  intro k
  induction k with
  | zero => intro x s; simp [txtN]
  | succ k ih =>
    intro x s
    simp only [txtN]
    cases decide (x > 0) with
    | true =>
      have := ih (IntKind.wrap .i64 (Int.tdiv x (10 : Int))) (digB x ++ s)
      rw [ByteArray.size_append, digB_size] at this
      simp only [cond_true]; omega
    | false => simp only [cond_false]; omega
theorem foldN_app {α : Type} (f : α → List Int) (d : α) (l : List α) (g : Nat → List Int → List Int) (hg : ∀ i h, i < l.length → g i h = h ++ f (l.getD i d)) : ∀ k i h, i + k = l.length → foldN g k i h = h ++ ((l.drop i).map f).flatten := by
  intro k
  induction k with
  | zero =>
    intro i h hi
    have : l.drop i = [] := List.drop_eq_nil_of_le (by omega)
    simp [foldN, this]
  | succ k ih =>
    intro i h hi
    have hlt : i < l.length := by omega
    simp only [foldN]
    rw [ih (i + 1) (g i h) (by omega), hg i h hlt, List.append_assoc, show l.drop i = l[i] :: l.drop (i + 1) from List.drop_eq_getElem_cons hlt, List.map_cons, List.flatten_cons, show l.getD i d = l[i] from by simp [List.getD_eq_getElem?_getD, hlt]]
theorem opB_len (o : Int × ByteArray × ByteArray) : (opB o).length ≤ 15 + o.2.1.size + o.2.2.size := by
  have h1 := numB_len (clampN o.1)
  have h2 := textB_len o.2.1
  have h3 := textB_len o.2.2
  simp only [opB, List.length_append]; omega
theorem flat_len {M : Nat} : ∀ l : List (Int × ByteArray × ByteArray), (∀ o ∈ l, (opB o).length ≤ M) → (l.map opB).flatten.length ≤ M * l.length := by
  intro l
  induction l with
  | nil => intro _; simp
  | cons o l ih =>
    intro h
    have h1 := h o (by simp)
    have h2 := ih fun x hx => h x (by simp [hx])
    simp only [List.map_cons, List.flatten_cons, List.length_append, List.length_cons]
    rw [Nat.mul_add]; omega
theorem okOps_mem {l : List (Int × ByteArray × ByteArray)} (h : okOps l = true) : ∀ o ∈ l, o.2.1.size ≤ 1048576 ∧ o.2.2.size ≤ 1048576 := by
  intro o ho
  simp only [okOps, Bool.and_eq_true, List.all_eq_true] at h
  have := h.2 o ho
  simpa [okOp, okS] using this

/-! 52 loop.example/g00244/laws.big -/
noncomputable abbrev P_lbig : List PSh := [.t (.sl (.int .u8))]
noncomputable def lbig (a0 : List Int) : Bool := (decide (((a0.length : Nat) : Int) > (1048576 : Int)))
noncomputable abbrev e_lbig (r : Bool) : AV × List AObj := ((.t true .bool r), [])
noncomputable abbrev g_lbig : pshsDen P_lbig → AV × List AObj := fun d => e_lbig (lbig d.1)
noncomputable abbrev pre_lbig : pshsDen P_lbig → Bool := fun d => true
theorem runA_lbig (a0 : List Int) : runP true Try.prog tt S0 QF0 (fun _ _ => none) Try.f52 (argsMk P_lbig (a0, ())) = some (g_lbig (a0, ())) := by
  kernel_rfl
theorem run_lbig : ∀ d, pre_lbig d = true → runP true Try.prog tt S0 QF0 (fun _ _ => none) Try.f52 (argsMk P_lbig d) = some (g_lbig d) := fun d hp => runA_lbig d.1
theorem c_lbig : PContract Try.prog 52 (sumOf P_lbig pre_lbig g_lbig) := PContract.of_data true G0 (fn := Try.f52) (by kernel_rfl) (L := fun _ _ => none) (by rw [show loopsIn 0 (bodyOf Try.f52) = [] by kernel_rfl]; simp) P_lbig pre_lbig g_lbig run_lbig
noncomputable def S1 : Tab := Tab.add S0 52 (lift (sumOf P_lbig pre_lbig g_lbig))
noncomputable def QF1 : FuncId → Bool := qadd QF0 52
theorem G1 : Good Try.prog tt S1 QF1 := G0.addQ c_lbig ⟨Try.f52, by kernel_rfl, by kernel_rfl, by kernel_rfl⟩ (fun _ => rfl)

/-! 113 loop.example/g00244/spec.l1New -/
noncomputable abbrev SM_sl1New : SS := ⟨[.t false (.sl (.int .u8))], []⟩
noncomputable abbrev S_sl1New_0 : SS := ⟨[.t false (.sl (.int .u8)), .junk, .junk, .t true (.int .i64), .t true (.int .i64), .junk, .junk, .junk, .junk, .junk, .junk, .junk, .junk, .junk, .junk, .junk, .junk, .junk, .junk, .junk, .junk, .junk, .junk, .junk, .junk, .junk, .junk, .junk, .junk, .junk, .junk, .junk], []⟩
noncomputable abbrev E_sl1New_0_0 : SS := ⟨[.t false (.sl (.int .u8)), .junk, .junk, .t true (.int .i64), .junk, .junk, .junk, .junk, .junk, .junk, .junk, .junk, .junk, .junk, .junk, .junk, .junk, .junk, .junk, .junk, .junk, .junk, .junk, .junk, .junk, .junk, .junk, .junk, .junk, .junk, .junk, .junk], []⟩
noncomputable def st_sl1New_0 (x0 : List Int) (x3 : Int) (x4 : Int) : RT S_sl1New_0.den := (.br (decide (x4 < ((x0.length : Nat) : Int))) (.br (decide (x4 < (4000 : Int))) (.br (decide (0 ≤ x4 ∧ x4 < ((x0.length : Nat) : Int))) (.next ((x0, (), (), iand .i64 (IntKind.wrap .i64 ((IntKind.wrap .i64 ((IntKind.wrap .i64 (x3 * (137 : Int))) + (IntKind.wrap .i64 (x0.getD x4.toNat (0 : Int))))) + (11 : Int))) (1073741823 : Int), IntKind.wrap .i64 (x4 + (1 : Int)), (), (), (), (), (), (), (), (), (), (), (), (), (), (), (), (), (), (), (), (), (), (), (), (), (), (), (), ()), ())) .fail) (.done (.exit 0) E_sl1New_0_0 ((x0, (), (), x3, (), (), (), (), (), (), (), (), (), (), (), (), (), (), (), (), (), (), (), (), (), (), (), (), (), (), (), (), ()), ()))) (.done (.exit 0) E_sl1New_0_0 ((x0, (), (), x3, (), (), (), (), (), (), (), (), (), (), (), (), (), (), (), (), (), (), (), (), (), (), (), (), (), (), (), (), ()), ())))
noncomputable abbrev V_sl1New_0 := (List Int) × (Int) × (Int)
noncomputable abbrev A_sl1New_0 := Nat × (List Int) × (Int)
noncomputable def fl_sl1New_0 : A_sl1New_0 := (99, ([] : List Int), ((0 : Int) : Int))
noncomputable def ss_sl1New_0 (x0 : List Int) (x3 : Int) (x4 : Int) : V_sl1New_0 ⊕ A_sl1New_0 := (cond (decide (x4 < ((x0.length : Nat) : Int))) (cond (decide (x4 < (4000 : Int))) (cond (decide (0 ≤ x4 ∧ x4 < ((x0.length : Nat) : Int))) (.inl (x0, iand .i64 (IntKind.wrap .i64 ((IntKind.wrap .i64 ((IntKind.wrap .i64 (x3 * (137 : Int))) + (IntKind.wrap .i64 (x0.getD x4.toNat (0 : Int))))) + (11 : Int))) (1073741823 : Int), IntKind.wrap .i64 (x4 + (1 : Int)))) (.inr fl_sl1New_0)) (.inr (0, x0, x3))) (.inr (0, x0, x3)))
noncomputable def it_sl1New_0 (x0 : List Int) (x3 : Int) (x4 : Int) : A_sl1New_0 := itX (fun v : V_sl1New_0 => ss_sl1New_0 v.1 v.2.1 v.2.2) fl_sl1New_0 (x0, x3, x4)
noncomputable def ct_sl1New_0 (a : A_sl1New_0) : CT := (.br (a.1 == 0) (.done (.exit 0) E_sl1New_0_0 ((a.2.1, (), (), a.2.2, (), (), (), (), (), (), (), (), (), (), (), (), (), (), (), (), (), (), (), (), (), (), (), (), (), (), (), (), ()), ())) .fail)
noncomputable def T_sl1New_0 (x0 : List Int) (x3 : Int) (x4 : Int) : CT := ct_sl1New_0 (it_sl1New_0 x0 x3 x4)
noncomputable abbrev sp_sl1New_0 : S_sl1New_0.den → RT S_sl1New_0.den := fun d => st_sl1New_0 d.1.1 d.1.2.2.2.1 d.1.2.2.2.2.1
noncomputable abbrev pk_sl1New_0 (x0 : List Int) (x3 : Int) (x4 : Int) : S_sl1New_0.den := ((x0, (), (), x3, x4, (), (), (), (), (), (), (), (), (), (), (), (), (), (), (), (), (), (), (), (), (), (), (), (), (), (), (), ()), ())
noncomputable def body_sl1New_0 : Code := ((loopsIn 0 (bodyOf Try.f113)).getD 0 (0, .skip)).2
theorem R_sl1New_0 (x0 : List Int) (x3 : Int) (x4 : Int) : (T_sl1New_0 x0 x3 x4).val (D := S_sl1New_0.den) = .fail ∨ Runs sp_sl1New_0 (pk_sl1New_0 x0 x3 x4) (T_sl1New_0 x0 x3 x4).val := Runs.ofIt (step := sp_sl1New_0) (fun v : V_sl1New_0 => pk_sl1New_0 v.1 v.2.1 v.2.2) (ct := ct_sl1New_0) rfl (fun v => ((relB (relB (relB rfl rfl) rfl) rfl) : (st_sl1New_0 v.1 v.2.1 v.2.2).val = relS (fun v : V_sl1New_0 => pk_sl1New_0 v.1 v.2.1 v.2.2) ct_sl1New_0 (ss_sl1New_0 v.1 v.2.1 v.2.2))) (fun a => ((cendB (cendD (by simp)) cendF) : CEnd _ (ct_sl1New_0 a))) (x0, x3, x4)
theorem rd_sl1New_0 : ∀ d, execC Try.prog tt S1 QF1 (fun _ _ => none) 0 body_sl1New_0 (S_sl1New_0.st d 0 []) (fun e s' => some (e, S_sl1New_0.cutE (kepts [] [(0, [0, 3])]) e s')) = (sp_sl1New_0 d).opt 0 [] := by
  intro d
  kernel_rfl
noncomputable abbrev say_sl1New_0 : St → Option Tree := S_sl1New_0.say 0 [] [] (fun d => T_sl1New_0 d.1.1 d.1.2.2.2.1 d.1.2.2.2.2.1)
theorem lw_sl1New_0 : LoopWp Try.prog say_sl1New_0 body_sl1New_0 := SS.wp G1 (fun _ _ => none) (by rw [show loopsIn 0 body_sl1New_0 = [] by kernel_rfl]; simp) S_sl1New_0 0 [] (kepts [] [(0, [0, 3])]) [] sp_sl1New_0 rd_sl1New_0 _ (fun d => R_sl1New_0 d.1.1 d.1.2.2.2.1 d.1.2.2.2.2.1)
noncomputable def sl1New (x0 : List Int) : (List Int) × Int × Int := (((it_sl1New_0 x0 (IntKind.wrap .i64 ((381381 : Int) + ((x0.length : Nat) : Int))) (0 : Int)).2.1), (0 : Int), ((it_sl1New_0 x0 (IntKind.wrap .i64 ((381381 : Int) + ((x0.length : Nat) : Int))) (0 : Int)).2.2))
noncomputable abbrev e_sl1New (r : (List Int) × Int × Int) : AV × List AObj × List Nat := ((.ptr 0 0 1 0), [(.box [(.t false (.sl (.int .u8)) r.1), (.t true (.int .i64) r.2.1), (.t true (.int .i64) r.2.2)])], [])
noncomputable abbrev g_sl1New : SM_sl1New.den → AV × List AObj × List Nat := fun d => e_sl1New (sl1New d.1.1)
noncomputable def q_sl1New (x0 : List Int) : Bool := ((it_sl1New_0 x0 (IntKind.wrap .i64 ((381381 : Int) + ((x0.length : Nat) : Int))) (0 : Int)).1 == 0)
noncomputable abbrev pre_sl1New : SM_sl1New.den → Bool := fun d => q_sl1New d.1.1
theorem runA_sl1New (x0 : List Int) (hp : (((it_sl1New_0 x0 (IntKind.wrap .i64 ((381381 : Int) + ((x0.length : Nat) : Int))) (0 : Int)).1 == 0)) = true) : runM Try.prog tt S1 QF1 (fun b => match b with | 0 => say_sl1New_0 | _ => fun _ => none) Try.f113 (shsMk SM_sl1New.sl (((x0, ()), ()) : SM_sl1New.den).1) (ohsMk SM_sl1New.hp (((x0, ()), ()) : SM_sl1New.den).2) = some (g_sl1New ((x0, ()), ())) := by
  refine Eq.trans (b := (cond ((it_sl1New_0 x0 (IntKind.wrap .i64 ((381381 : Int) + ((x0.length : Nat) : Int))) (0 : Int)).1 == 0) (some (e_sl1New (((it_sl1New_0 x0 (IntKind.wrap .i64 ((381381 : Int) + ((x0.length : Nat) : Int))) (0 : Int)).2.1), (0 : Int), ((it_sl1New_0 x0 (IntKind.wrap .i64 ((381381 : Int) + ((x0.length : Nat) : Int))) (0 : Int)).2.2)))) none)) (by kernel_rfl) ?_
  exact (cndT hp (fun _h => rfl))
theorem run_sl1New : ∀ d : SM_sl1New.den, pre_sl1New d = true → runM Try.prog tt S1 QF1 (fun b => match b with | 0 => say_sl1New_0 | _ => fun _ => none) Try.f113 (shsMk SM_sl1New.sl (d : SM_sl1New.den).1) (ohsMk SM_sl1New.hp (d : SM_sl1New.den).2) = some (g_sl1New d) := fun d hp => runA_sl1New d.1.1 hp
theorem c_sl1New : MContract Try.prog 113 (win winIds (msum SM_sl1New pre_sl1New g_sl1New)) := (MContract.of_data G1 (fn := Try.f113) (by kernel_rfl) (L := fun b => match b with | 0 => say_sl1New_0 | _ => fun _ => none) (by rw [show loopsIn 0 (bodyOf Try.f113) = [(0, body_sl1New_0)] by kernel_rfl]; intro p hp; simp only [List.mem_singleton] at hp; subst hp; exact lw_sl1New_0) SM_sl1New pre_sl1New g_sl1New run_sl1New).win winIds
noncomputable def S2 : Tab := Tab.add S1 113 (win winIds (msum SM_sl1New pre_sl1New g_sl1New))
noncomputable def QF2 : FuncId → Bool := QF1
theorem G2 : Good Try.prog tt S2 QF2 := G1.addM c_sl1New (win_local _) ⟨Try.f113, by kernel_rfl, by kernel_rfl, by kernel_rfl⟩ (by kernel_rfl)

/-! 147 loop.example/g00244/spec.l1Byte -/
noncomputable abbrev SM_sl1Byte : SS := ⟨[.ptr 0 0 1 0], [.box [.t false (.sl (.int .u8)), .t true (.int .i64), .t true (.int .i64)]]⟩
noncomputable def sl1Byte (h0_0 : List Int) (h0_1 : Int) (h0_2 : Int) : Int × (List Int) × Int × Int := (cond (decide (h0_1 < ((h0_0.length : Nat) : Int))) (iand .i64 (IntKind.wrap .i64 ((iand .i64 (ixor .i64 (Int.fdiv (IntKind.wrap .i64 ((IntKind.wrap .i64 (h0_2 * (6364136223846793005 : Int))) + (1442695040888963407 : Int))) (2 ^ (33))) (Int.fdiv (IntKind.wrap .i64 ((IntKind.wrap .i64 (h0_2 * (6364136223846793005 : Int))) + (1442695040888963407 : Int))) (2 ^ (47)))) (255 : Int)) + (IntKind.wrap .i64 (h0_0.getD h0_1.toNat (0 : Int))))) (255 : Int), h0_0, IntKind.wrap .i64 (h0_1 + (1 : Int)), IntKind.wrap .i64 ((IntKind.wrap .i64 (h0_2 * (6364136223846793005 : Int))) + (1442695040888963407 : Int))) (iand .i64 (ixor .i64 (Int.fdiv (IntKind.wrap .i64 ((IntKind.wrap .i64 (h0_2 * (6364136223846793005 : Int))) + (1442695040888963407 : Int))) (2 ^ (33))) (Int.fdiv (IntKind.wrap .i64 ((IntKind.wrap .i64 (h0_2 * (6364136223846793005 : Int))) + (1442695040888963407 : Int))) (2 ^ (47)))) (255 : Int), h0_0, h0_1, IntKind.wrap .i64 ((IntKind.wrap .i64 (h0_2 * (6364136223846793005 : Int))) + (1442695040888963407 : Int))))
noncomputable abbrev e_sl1Byte (r : Int × (List Int) × Int × Int) : AV × List AObj × List Nat := ((.t true (.int .i64) r.1), [(.box [(.t false (.sl (.int .u8)) r.2.1), (.t true (.int .i64) r.2.2.1), (.t true (.int .i64) r.2.2.2)])], [])
noncomputable abbrev g_sl1Byte : SM_sl1Byte.den → AV × List AObj × List Nat := fun d => e_sl1Byte (sl1Byte d.2.1.1 d.2.1.2.1 d.2.1.2.2.1)
noncomputable def q_sl1Byte (h0_0 : List Int) (h0_1 : Int) (h0_2 : Int) : Bool := cond (decide (h0_1 < ((h0_0.length : Nat) : Int))) (decide (0 ≤ h0_1 ∧ h0_1 < ((h0_0.length : Nat) : Int))) true
noncomputable abbrev pre_sl1Byte : SM_sl1Byte.den → Bool := fun d => q_sl1Byte d.2.1.1 d.2.1.2.1 d.2.1.2.2.1
theorem runA_sl1Byte (h0_0 : List Int) (h0_1 : Int) (h0_2 : Int) (hp : (cond (decide (h0_1 < ((h0_0.length : Nat) : Int))) (decide (0 ≤ h0_1 ∧ h0_1 < ((h0_0.length : Nat) : Int))) true) = true) : runM Try.prog tt S2 QF2 (fun _ _ => none) Try.f147 (shsMk SM_sl1Byte.sl ((((), ()), ((h0_0, h0_1, h0_2, ()), ())) : SM_sl1Byte.den).1) (ohsMk SM_sl1Byte.hp ((((), ()), ((h0_0, h0_1, h0_2, ()), ())) : SM_sl1Byte.den).2) = some (g_sl1Byte (((), ()), ((h0_0, h0_1, h0_2, ()), ()))) := by
  refine Eq.trans (b := (cond (decide (h0_1 < ((h0_0.length : Nat) : Int))) (cond (decide (0 ≤ h0_1 ∧ h0_1 < ((h0_0.length : Nat) : Int))) (some (e_sl1Byte (iand .i64 (IntKind.wrap .i64 ((iand .i64 (ixor .i64 (Int.fdiv (IntKind.wrap .i64 ((IntKind.wrap .i64 (h0_2 * (6364136223846793005 : Int))) + (1442695040888963407 : Int))) (2 ^ (33))) (Int.fdiv (IntKind.wrap .i64 ((IntKind.wrap .i64 (h0_2 * (6364136223846793005 : Int))) + (1442695040888963407 : Int))) (2 ^ (47)))) (255 : Int)) + (IntKind.wrap .i64 (h0_0.getD h0_1.toNat (0 : Int))))) (255 : Int), h0_0, IntKind.wrap .i64 (h0_1 + (1 : Int)), IntKind.wrap .i64 ((IntKind.wrap .i64 (h0_2 * (6364136223846793005 : Int))) + (1442695040888963407 : Int))))) none) (some (e_sl1Byte (iand .i64 (ixor .i64 (Int.fdiv (IntKind.wrap .i64 ((IntKind.wrap .i64 (h0_2 * (6364136223846793005 : Int))) + (1442695040888963407 : Int))) (2 ^ (33))) (Int.fdiv (IntKind.wrap .i64 ((IntKind.wrap .i64 (h0_2 * (6364136223846793005 : Int))) + (1442695040888963407 : Int))) (2 ^ (47)))) (255 : Int), h0_0, h0_1, IntKind.wrap .i64 ((IntKind.wrap .i64 (h0_2 * (6364136223846793005 : Int))) + (1442695040888963407 : Int))))))) (by kernel_rfl) ?_
  exact (cndQ (F := fun r => some (e_sl1Byte r)) hp (fun hp => (cndT hp (fun _h => rfl))) (fun hp => rfl))
theorem run_sl1Byte : ∀ d : SM_sl1Byte.den, pre_sl1Byte d = true → runM Try.prog tt S2 QF2 (fun _ _ => none) Try.f147 (shsMk SM_sl1Byte.sl (d : SM_sl1Byte.den).1) (ohsMk SM_sl1Byte.hp (d : SM_sl1Byte.den).2) = some (g_sl1Byte d) := fun d hp => runA_sl1Byte d.2.1.1 d.2.1.2.1 d.2.1.2.2.1 hp
theorem c_sl1Byte : MContract Try.prog 147 (win winIds (msum SM_sl1Byte pre_sl1Byte g_sl1Byte)) := (MContract.of_data G2 (fn := Try.f147) (by kernel_rfl) (L := fun _ _ => none) (by rw [show loopsIn 0 (bodyOf Try.f147) = [] by kernel_rfl]; simp) SM_sl1Byte pre_sl1Byte g_sl1Byte run_sl1Byte).win winIds
noncomputable def S3 : Tab := Tab.add S2 147 (win winIds (msum SM_sl1Byte pre_sl1Byte g_sl1Byte))
noncomputable def QF3 : FuncId → Bool := QF2
theorem G3 : Good Try.prog tt S3 QF3 := G2.addM c_sl1Byte (win_local _) ⟨Try.f147, by kernel_rfl, by kernel_rfl, by kernel_rfl⟩ (by kernel_rfl)

/-! 116 loop.example/g00244/spec.l1Below -/
noncomputable abbrev SM_sl1Below : SS := ⟨[.ptr 0 0 1 0, .t true (.int .i64)], [.box [.t false (.sl (.int .u8)), .t true (.int .i64), .t true (.int .i64)]]⟩
noncomputable def k1_sl1Below (h0_0 : List Int) (h0_1 : Int) (h0_2 : Int) := sl1Byte ((sl1Byte h0_0 h0_1 h0_2).2.1) ((sl1Byte h0_0 h0_1 h0_2).2.2.1) ((sl1Byte h0_0 h0_1 h0_2).2.2.2)
noncomputable def k2_sl1Below (h0_0 : List Int) (h0_1 : Int) (h0_2 : Int) := sl1Byte ((k1_sl1Below h0_0 h0_1 h0_2).2.1) ((k1_sl1Below h0_0 h0_1 h0_2).2.2.1) ((k1_sl1Below h0_0 h0_1 h0_2).2.2.2)
noncomputable def sl1Below (x1 : Int) (h0_0 : List Int) (h0_1 : Int) (h0_2 : Int) : Int × (List Int) × Int × Int := (cond (decide (x1 ≤ (0 : Int))) ((0 : Int), h0_0, h0_1, h0_2) (cond (decide (x1 ≤ (256 : Int))) (Int.tmod ((sl1Byte h0_0 h0_1 h0_2).1) x1, ((sl1Byte h0_0 h0_1 h0_2).2.1), ((sl1Byte h0_0 h0_1 h0_2).2.2.1), ((sl1Byte h0_0 h0_1 h0_2).2.2.2)) (Int.tmod (IntKind.wrap .i64 ((IntKind.wrap .i64 ((IntKind.wrap .i64 (((sl1Byte h0_0 h0_1 h0_2).1) * (65536 : Int))) + (IntKind.wrap .i64 (((k1_sl1Below h0_0 h0_1 h0_2).1) * (256 : Int))))) + ((k2_sl1Below h0_0 h0_1 h0_2).1))) x1, ((k2_sl1Below h0_0 h0_1 h0_2).2.1), ((k2_sl1Below h0_0 h0_1 h0_2).2.2.1), ((k2_sl1Below h0_0 h0_1 h0_2).2.2.2))))
noncomputable abbrev e_sl1Below (r : Int × (List Int) × Int × Int) : AV × List AObj × List Nat := ((.t true (.int .i64) r.1), [(.box [(.t false (.sl (.int .u8)) r.2.1), (.t true (.int .i64) r.2.2.1), (.t true (.int .i64) r.2.2.2)])], [])
noncomputable abbrev g_sl1Below : SM_sl1Below.den → AV × List AObj × List Nat := fun d => e_sl1Below (sl1Below d.1.2.1 d.2.1.1 d.2.1.2.1 d.2.1.2.2.1)
noncomputable def q_sl1Below (x1 : Int) (h0_0 : List Int) (h0_1 : Int) (h0_2 : Int) : Bool := cond (decide (x1 ≤ (0 : Int))) true (cond (decide (x1 ≤ (256 : Int))) ((q_sl1Byte h0_0 h0_1 h0_2) && (decide (x1 ≠ 0))) ((q_sl1Byte h0_0 h0_1 h0_2) && ((q_sl1Byte ((sl1Byte h0_0 h0_1 h0_2).2.1) ((sl1Byte h0_0 h0_1 h0_2).2.2.1) ((sl1Byte h0_0 h0_1 h0_2).2.2.2)) && ((q_sl1Byte ((k1_sl1Below h0_0 h0_1 h0_2).2.1) ((k1_sl1Below h0_0 h0_1 h0_2).2.2.1) ((k1_sl1Below h0_0 h0_1 h0_2).2.2.2)) && (decide (x1 ≠ 0))))))
noncomputable abbrev pre_sl1Below : SM_sl1Below.den → Bool := fun d => q_sl1Below d.1.2.1 d.2.1.1 d.2.1.2.1 d.2.1.2.2.1
theorem runA_sl1Below (x1 : Int) (h0_0 : List Int) (h0_1 : Int) (h0_2 : Int) (hp : (cond (decide (x1 ≤ (0 : Int))) true (cond (decide (x1 ≤ (256 : Int))) ((q_sl1Byte h0_0 h0_1 h0_2) && (decide (x1 ≠ 0))) ((q_sl1Byte h0_0 h0_1 h0_2) && ((q_sl1Byte ((sl1Byte h0_0 h0_1 h0_2).2.1) ((sl1Byte h0_0 h0_1 h0_2).2.2.1) ((sl1Byte h0_0 h0_1 h0_2).2.2.2)) && ((q_sl1Byte ((k1_sl1Below h0_0 h0_1 h0_2).2.1) ((k1_sl1Below h0_0 h0_1 h0_2).2.2.1) ((k1_sl1Below h0_0 h0_1 h0_2).2.2.2)) && (decide (x1 ≠ 0))))))) = true) : runM Try.prog tt S3 QF3 (fun _ _ => none) Try.f116 (shsMk SM_sl1Below.sl ((((), x1, ()), ((h0_0, h0_1, h0_2, ()), ())) : SM_sl1Below.den).1) (ohsMk SM_sl1Below.hp ((((), x1, ()), ((h0_0, h0_1, h0_2, ()), ())) : SM_sl1Below.den).2) = some (g_sl1Below (((), x1, ()), ((h0_0, h0_1, h0_2, ()), ()))) := by
  refine Eq.trans (b := (cond (decide (x1 ≤ (0 : Int))) (some (e_sl1Below ((0 : Int), h0_0, h0_1, h0_2))) (cond (decide (x1 ≤ (256 : Int))) (cond (q_sl1Byte h0_0 h0_1 h0_2) (cond (decide (x1 ≠ 0)) (some (e_sl1Below (Int.tmod ((sl1Byte h0_0 h0_1 h0_2).1) x1, ((sl1Byte h0_0 h0_1 h0_2).2.1), ((sl1Byte h0_0 h0_1 h0_2).2.2.1), ((sl1Byte h0_0 h0_1 h0_2).2.2.2)))) none) none) (cond (q_sl1Byte h0_0 h0_1 h0_2) (cond (q_sl1Byte ((sl1Byte h0_0 h0_1 h0_2).2.1) ((sl1Byte h0_0 h0_1 h0_2).2.2.1) ((sl1Byte h0_0 h0_1 h0_2).2.2.2)) (cond (q_sl1Byte ((k1_sl1Below h0_0 h0_1 h0_2).2.1) ((k1_sl1Below h0_0 h0_1 h0_2).2.2.1) ((k1_sl1Below h0_0 h0_1 h0_2).2.2.2)) (cond (decide (x1 ≠ 0)) (some (e_sl1Below (Int.tmod (IntKind.wrap .i64 ((IntKind.wrap .i64 ((IntKind.wrap .i64 (((sl1Byte h0_0 h0_1 h0_2).1) * (65536 : Int))) + (IntKind.wrap .i64 (((k1_sl1Below h0_0 h0_1 h0_2).1) * (256 : Int))))) + ((k2_sl1Below h0_0 h0_1 h0_2).1))) x1, ((k2_sl1Below h0_0 h0_1 h0_2).2.1), ((k2_sl1Below h0_0 h0_1 h0_2).2.2.1), ((k2_sl1Below h0_0 h0_1 h0_2).2.2.2)))) none) none) none) none)))) (by kernel_rfl) ?_
  exact (cndQ (F := fun r => some (e_sl1Below r)) hp (fun hp => rfl) (fun hp => (cndQ (F := fun r => some (e_sl1Below r)) hp (fun hp => (cndT (andL hp) (fun _h => (fun hp => (cndT hp (fun _h => rfl))) (andR hp)))) (fun hp => (cndT (andL hp) (fun _h => (fun hp => (cndT (andL hp) (fun _h => (fun hp => (cndT (andL hp) (fun _h => (fun hp => (cndT hp (fun _h => rfl))) (andR hp)))) (andR hp)))) (andR hp)))))))
theorem run_sl1Below : ∀ d : SM_sl1Below.den, pre_sl1Below d = true → runM Try.prog tt S3 QF3 (fun _ _ => none) Try.f116 (shsMk SM_sl1Below.sl (d : SM_sl1Below.den).1) (ohsMk SM_sl1Below.hp (d : SM_sl1Below.den).2) = some (g_sl1Below d) := fun d hp => runA_sl1Below d.1.2.1 d.2.1.1 d.2.1.2.1 d.2.1.2.2.1 hp
theorem c_sl1Below : MContract Try.prog 116 (win winIds (msum SM_sl1Below pre_sl1Below g_sl1Below)) := (MContract.of_data G3 (fn := Try.f116) (by kernel_rfl) (L := fun _ _ => none) (by rw [show loopsIn 0 (bodyOf Try.f116) = [] by kernel_rfl]; simp) SM_sl1Below pre_sl1Below g_sl1Below run_sl1Below).win winIds
noncomputable def S4 : Tab := Tab.add S3 116 (win winIds (msum SM_sl1Below pre_sl1Below g_sl1Below))
noncomputable def QF4 : FuncId → Bool := QF3
theorem G4 : Good Try.prog tt S4 QF4 := G3.addM c_sl1Below (win_local _) ⟨Try.f116, by kernel_rfl, by kernel_rfl, by kernel_rfl⟩ (by kernel_rfl)

/-! 159 loop.example/g00244/spec.l1Str -/
noncomputable abbrev SM_sl1Str : SS := ⟨[.ptr 0 0 1 0, .all 1 1], [.box [.t false (.sl (.int .u8)), .t true (.int .i64), .t true (.int .i64)], .rows 9 true .str]⟩
noncomputable def sl1Str (h0_0 : List Int) (h0_1 : Int) (h0_2 : Int) (h1 : List ByteArray) : ByteArray × (List Int) × Int × Int × List ByteArray := (h1.getD (((sl1Below ((h1.length : Nat) : Int) h0_0 h0_1 h0_2).1).toNat) (⟨#[]⟩ : ByteArray), ((sl1Below ((h1.length : Nat) : Int) h0_0 h0_1 h0_2).2.1), ((sl1Below ((h1.length : Nat) : Int) h0_0 h0_1 h0_2).2.2.1), ((sl1Below ((h1.length : Nat) : Int) h0_0 h0_1 h0_2).2.2.2), h1)
noncomputable abbrev e_sl1Str (r : ByteArray × (List Int) × Int × Int × List ByteArray) : AV × List AObj × List Nat := ((.t true .str r.1), [(.box [(.t false (.sl (.int .u8)) r.2.1), (.t true (.int .i64) r.2.2.1), (.t true (.int .i64) r.2.2.2.1)]), (.rows 9 true .str r.2.2.2.2)], [])
noncomputable abbrev g_sl1Str : SM_sl1Str.den → AV × List AObj × List Nat := fun d => e_sl1Str (sl1Str d.2.1.1 d.2.1.2.1 d.2.1.2.2.1 d.2.2.1)
noncomputable def q_sl1Str (h0_0 : List Int) (h0_1 : Int) (h0_2 : Int) (h1 : List ByteArray) : Bool := (q_sl1Below ((h1.length : Nat) : Int) h0_0 h0_1 h0_2) && (decide (0 ≤ ((sl1Below ((h1.length : Nat) : Int) h0_0 h0_1 h0_2).1) ∧ ((sl1Below ((h1.length : Nat) : Int) h0_0 h0_1 h0_2).1) < ((h1.length : Nat) : Int)))
noncomputable abbrev pre_sl1Str : SM_sl1Str.den → Bool := fun d => q_sl1Str d.2.1.1 d.2.1.2.1 d.2.1.2.2.1 d.2.2.1
theorem runA_sl1Str (h0_0 : List Int) (h0_1 : Int) (h0_2 : Int) (h1 : List ByteArray) (hp : ((q_sl1Below ((h1.length : Nat) : Int) h0_0 h0_1 h0_2) && (decide (0 ≤ ((sl1Below ((h1.length : Nat) : Int) h0_0 h0_1 h0_2).1) ∧ ((sl1Below ((h1.length : Nat) : Int) h0_0 h0_1 h0_2).1) < ((h1.length : Nat) : Int)))) = true) : runM Try.prog tt S4 QF4 (fun _ _ => none) Try.f159 (shsMk SM_sl1Str.sl ((((), (), ()), ((h0_0, h0_1, h0_2, ()), h1, ())) : SM_sl1Str.den).1) (ohsMk SM_sl1Str.hp ((((), (), ()), ((h0_0, h0_1, h0_2, ()), h1, ())) : SM_sl1Str.den).2) = some (g_sl1Str (((), (), ()), ((h0_0, h0_1, h0_2, ()), h1, ()))) := by
  refine Eq.trans (b := (cond (q_sl1Below ((h1.length : Nat) : Int) h0_0 h0_1 h0_2) (cond (decide (0 ≤ ((sl1Below ((h1.length : Nat) : Int) h0_0 h0_1 h0_2).1) ∧ ((sl1Below ((h1.length : Nat) : Int) h0_0 h0_1 h0_2).1) < ((h1.length : Nat) : Int))) (some (e_sl1Str (h1.getD (((sl1Below ((h1.length : Nat) : Int) h0_0 h0_1 h0_2).1).toNat) (⟨#[]⟩ : ByteArray), ((sl1Below ((h1.length : Nat) : Int) h0_0 h0_1 h0_2).2.1), ((sl1Below ((h1.length : Nat) : Int) h0_0 h0_1 h0_2).2.2.1), ((sl1Below ((h1.length : Nat) : Int) h0_0 h0_1 h0_2).2.2.2), h1))) none) none)) (by kernel_rfl) ?_
  exact (cndT (andL hp) (fun _h => (fun hp => (cndT hp (fun _h => rfl))) (andR hp)))
theorem run_sl1Str : ∀ d : SM_sl1Str.den, pre_sl1Str d = true → runM Try.prog tt S4 QF4 (fun _ _ => none) Try.f159 (shsMk SM_sl1Str.sl (d : SM_sl1Str.den).1) (ohsMk SM_sl1Str.hp (d : SM_sl1Str.den).2) = some (g_sl1Str d) := fun d hp => runA_sl1Str d.2.1.1 d.2.1.2.1 d.2.1.2.2.1 d.2.2.1 hp
theorem c_sl1Str : MContract Try.prog 159 (win winIds (msum SM_sl1Str pre_sl1Str g_sl1Str)) := (MContract.of_data G4 (fn := Try.f159) (by kernel_rfl) (L := fun _ _ => none) (by rw [show loopsIn 0 (bodyOf Try.f159) = [] by kernel_rfl]; simp) SM_sl1Str pre_sl1Str g_sl1Str run_sl1Str).win winIds
noncomputable def S5 : Tab := Tab.add S4 159 (win winIds (msum SM_sl1Str pre_sl1Str g_sl1Str))
noncomputable def QF5 : FuncId → Bool := QF4
theorem G5 : Good Try.prog tt S5 QF5 := G4.addM c_sl1Str (win_local _) ⟨Try.f159, by kernel_rfl, by kernel_rfl, by kernel_rfl⟩ (by kernel_rfl)

/-! 151 loop.example/g00244/spec.l3Key -/
noncomputable abbrev SM_sl3Key : SS := ⟨[.ptr 0 0 1 0], [.box [.t false (.sl (.int .u8)), .t true (.int .i64), .t true (.int .i64)]]⟩
noncomputable def k1_sl3Key (h0_0 : List Int) (h0_1 : Int) (h0_2 : Int) := sl1Str h0_0 h0_1 h0_2 ([(⟨#[97]⟩ : ByteArray), (⟨#[98]⟩ : ByteArray), (⟨#[99]⟩ : ByteArray), (⟨#[107, 49]⟩ : ByteArray), (⟨#[107, 50]⟩ : ByteArray), (⟨#[109]⟩ : ByteArray), (⟨#[122]⟩ : ByteArray)])
noncomputable def sl3Key (h0_0 : List Int) (h0_1 : Int) (h0_2 : Int) : ByteArray × (List Int) × Int × Int := (((k1_sl3Key h0_0 h0_1 h0_2).1), ((k1_sl3Key h0_0 h0_1 h0_2).2.1), ((k1_sl3Key h0_0 h0_1 h0_2).2.2.1), ((k1_sl3Key h0_0 h0_1 h0_2).2.2.2.1))
noncomputable abbrev e_sl3Key (r : ByteArray × (List Int) × Int × Int) : AV × List AObj × List Nat := ((.t true .str r.1), [(.box [(.t false (.sl (.int .u8)) r.2.1), (.t true (.int .i64) r.2.2.1), (.t true (.int .i64) r.2.2.2)])], [])
noncomputable abbrev g_sl3Key : SM_sl3Key.den → AV × List AObj × List Nat := fun d => e_sl3Key (sl3Key d.2.1.1 d.2.1.2.1 d.2.1.2.2.1)
noncomputable def q_sl3Key (h0_0 : List Int) (h0_1 : Int) (h0_2 : Int) : Bool := q_sl1Str h0_0 h0_1 h0_2 ([(⟨#[97]⟩ : ByteArray), (⟨#[98]⟩ : ByteArray), (⟨#[99]⟩ : ByteArray), (⟨#[107, 49]⟩ : ByteArray), (⟨#[107, 50]⟩ : ByteArray), (⟨#[109]⟩ : ByteArray), (⟨#[122]⟩ : ByteArray)])
noncomputable abbrev pre_sl3Key : SM_sl3Key.den → Bool := fun d => q_sl3Key d.2.1.1 d.2.1.2.1 d.2.1.2.2.1
theorem runA_sl3Key (h0_0 : List Int) (h0_1 : Int) (h0_2 : Int) (hp : (q_sl1Str h0_0 h0_1 h0_2 ([(⟨#[97]⟩ : ByteArray), (⟨#[98]⟩ : ByteArray), (⟨#[99]⟩ : ByteArray), (⟨#[107, 49]⟩ : ByteArray), (⟨#[107, 50]⟩ : ByteArray), (⟨#[109]⟩ : ByteArray), (⟨#[122]⟩ : ByteArray)])) = true) : runM Try.prog tt S5 QF5 (fun _ _ => none) Try.f151 (shsMk SM_sl3Key.sl ((((), ()), ((h0_0, h0_1, h0_2, ()), ())) : SM_sl3Key.den).1) (ohsMk SM_sl3Key.hp ((((), ()), ((h0_0, h0_1, h0_2, ()), ())) : SM_sl3Key.den).2) = some (g_sl3Key (((), ()), ((h0_0, h0_1, h0_2, ()), ()))) := by
  refine Eq.trans (b := (cond (q_sl1Str h0_0 h0_1 h0_2 ([(⟨#[97]⟩ : ByteArray), (⟨#[98]⟩ : ByteArray), (⟨#[99]⟩ : ByteArray), (⟨#[107, 49]⟩ : ByteArray), (⟨#[107, 50]⟩ : ByteArray), (⟨#[109]⟩ : ByteArray), (⟨#[122]⟩ : ByteArray)])) (some (e_sl3Key (((k1_sl3Key h0_0 h0_1 h0_2).1), ((k1_sl3Key h0_0 h0_1 h0_2).2.1), ((k1_sl3Key h0_0 h0_1 h0_2).2.2.1), ((k1_sl3Key h0_0 h0_1 h0_2).2.2.2.1)))) none)) (by kernel_rfl) ?_
  exact (cndT hp (fun _h => rfl))
theorem run_sl3Key : ∀ d : SM_sl3Key.den, pre_sl3Key d = true → runM Try.prog tt S5 QF5 (fun _ _ => none) Try.f151 (shsMk SM_sl3Key.sl (d : SM_sl3Key.den).1) (ohsMk SM_sl3Key.hp (d : SM_sl3Key.den).2) = some (g_sl3Key d) := fun d hp => runA_sl3Key d.2.1.1 d.2.1.2.1 d.2.1.2.2.1 hp
theorem c_sl3Key : MContract Try.prog 151 (win winIds (msum SM_sl3Key pre_sl3Key g_sl3Key)) := (MContract.of_data G5 (fn := Try.f151) (by kernel_rfl) (L := fun _ _ => none) (by rw [show loopsIn 0 (bodyOf Try.f151) = [] by kernel_rfl]; simp) SM_sl3Key pre_sl3Key g_sl3Key run_sl3Key).win winIds
noncomputable def S6 : Tab := Tab.add S5 151 (win winIds (msum SM_sl3Key pre_sl3Key g_sl3Key))
noncomputable def QF6 : FuncId → Bool := QF5
theorem G6 : Good Try.prog tt S6 QF6 := G5.addM c_sl3Key (win_local _) ⟨Try.f151, by kernel_rfl, by kernel_rfl, by kernel_rfl⟩ (by kernel_rfl)

/-! 152 loop.example/g00244/spec.l3Val -/
noncomputable abbrev SM_sl3Val : SS := ⟨[.ptr 0 0 1 0], [.box [.t false (.sl (.int .u8)), .t true (.int .i64), .t true (.int .i64)]]⟩
noncomputable def k1_sl3Val (h0_0 : List Int) (h0_1 : Int) (h0_2 : Int) := sl1Str h0_0 h0_1 h0_2 ([(⟨#[]⟩ : ByteArray), (⟨#[49]⟩ : ByteArray), (⟨#[50]⟩ : ByteArray), (⟨#[120]⟩ : ByteArray), (⟨#[118, 97, 108, 117, 101]⟩ : ByteArray), (⟨#[0]⟩ : ByteArray)])
noncomputable def sl3Val (h0_0 : List Int) (h0_1 : Int) (h0_2 : Int) : ByteArray × (List Int) × Int × Int := (((k1_sl3Val h0_0 h0_1 h0_2).1), ((k1_sl3Val h0_0 h0_1 h0_2).2.1), ((k1_sl3Val h0_0 h0_1 h0_2).2.2.1), ((k1_sl3Val h0_0 h0_1 h0_2).2.2.2.1))
noncomputable abbrev e_sl3Val (r : ByteArray × (List Int) × Int × Int) : AV × List AObj × List Nat := ((.t true .str r.1), [(.box [(.t false (.sl (.int .u8)) r.2.1), (.t true (.int .i64) r.2.2.1), (.t true (.int .i64) r.2.2.2)])], [])
noncomputable abbrev g_sl3Val : SM_sl3Val.den → AV × List AObj × List Nat := fun d => e_sl3Val (sl3Val d.2.1.1 d.2.1.2.1 d.2.1.2.2.1)
noncomputable def q_sl3Val (h0_0 : List Int) (h0_1 : Int) (h0_2 : Int) : Bool := q_sl1Str h0_0 h0_1 h0_2 ([(⟨#[]⟩ : ByteArray), (⟨#[49]⟩ : ByteArray), (⟨#[50]⟩ : ByteArray), (⟨#[120]⟩ : ByteArray), (⟨#[118, 97, 108, 117, 101]⟩ : ByteArray), (⟨#[0]⟩ : ByteArray)])
noncomputable abbrev pre_sl3Val : SM_sl3Val.den → Bool := fun d => q_sl3Val d.2.1.1 d.2.1.2.1 d.2.1.2.2.1
theorem runA_sl3Val (h0_0 : List Int) (h0_1 : Int) (h0_2 : Int) (hp : (q_sl1Str h0_0 h0_1 h0_2 ([(⟨#[]⟩ : ByteArray), (⟨#[49]⟩ : ByteArray), (⟨#[50]⟩ : ByteArray), (⟨#[120]⟩ : ByteArray), (⟨#[118, 97, 108, 117, 101]⟩ : ByteArray), (⟨#[0]⟩ : ByteArray)])) = true) : runM Try.prog tt S6 QF6 (fun _ _ => none) Try.f152 (shsMk SM_sl3Val.sl ((((), ()), ((h0_0, h0_1, h0_2, ()), ())) : SM_sl3Val.den).1) (ohsMk SM_sl3Val.hp ((((), ()), ((h0_0, h0_1, h0_2, ()), ())) : SM_sl3Val.den).2) = some (g_sl3Val (((), ()), ((h0_0, h0_1, h0_2, ()), ()))) := by
  refine Eq.trans (b := (cond (q_sl1Str h0_0 h0_1 h0_2 ([(⟨#[]⟩ : ByteArray), (⟨#[49]⟩ : ByteArray), (⟨#[50]⟩ : ByteArray), (⟨#[120]⟩ : ByteArray), (⟨#[118, 97, 108, 117, 101]⟩ : ByteArray), (⟨#[0]⟩ : ByteArray)])) (some (e_sl3Val (((k1_sl3Val h0_0 h0_1 h0_2).1), ((k1_sl3Val h0_0 h0_1 h0_2).2.1), ((k1_sl3Val h0_0 h0_1 h0_2).2.2.1), ((k1_sl3Val h0_0 h0_1 h0_2).2.2.2.1)))) none)) (by kernel_rfl) ?_
  exact (cndT hp (fun _h => rfl))
theorem run_sl3Val : ∀ d : SM_sl3Val.den, pre_sl3Val d = true → runM Try.prog tt S6 QF6 (fun _ _ => none) Try.f152 (shsMk SM_sl3Val.sl (d : SM_sl3Val.den).1) (ohsMk SM_sl3Val.hp (d : SM_sl3Val.den).2) = some (g_sl3Val d) := fun d hp => runA_sl3Val d.2.1.1 d.2.1.2.1 d.2.1.2.2.1 hp
theorem c_sl3Val : MContract Try.prog 152 (win winIds (msum SM_sl3Val pre_sl3Val g_sl3Val)) := (MContract.of_data G6 (fn := Try.f152) (by kernel_rfl) (L := fun _ _ => none) (by rw [show loopsIn 0 (bodyOf Try.f152) = [] by kernel_rfl]; simp) SM_sl3Val pre_sl3Val g_sl3Val run_sl3Val).win winIds
noncomputable def S7 : Tab := Tab.add S6 152 (win winIds (msum SM_sl3Val pre_sl3Val g_sl3Val))
noncomputable def QF7 : FuncId → Bool := QF6
theorem G7 : Good Try.prog tt S7 QF7 := G6.addM c_sl3Val (win_local _) ⟨Try.f152, by kernel_rfl, by kernel_rfl, by kernel_rfl⟩ (by kernel_rfl)

/-! 103 loop.example/g00244/spec.PutKey -/
noncomputable abbrev P_sPutKey : List PSh := [.t (.sl (.pair .str .str)), .t .str, .t .str]
noncomputable def body_sPutKey_0 : Code := ((loopsIn 0 (bodyOf Try.f103)).getD 0 (0, .skip)).2
noncomputable def body_sPutKey_1 : Code := ((loopsIn 0 (bodyOf Try.f103)).getD 1 (0, .skip)).2
noncomputable abbrev S_sPutKey_0 : SS := ⟨[.t false (.sl (.pair .str .str)), .t true .str, .t true .str, .junk, .junk, .junk, .junk, .all 0 2, .t true (.int .i64), .junk, .junk, .junk, .junk, .junk, .junk, .junk, .junk, .junk, .junk, .junk, .junk, .junk, .junk, .junk, .junk, .junk, .junk, .junk, .junk, .junk, .junk, .junk, .junk, .junk, .junk, .junk, .junk, .junk, .junk, .junk, .junk, .junk, .junk, .junk, .junk, .junk, .junk, .junk, .junk, .junk, .junk, .junk, .junk, .junk, .junk, .junk, .junk, .junk, .junk, .junk, .junk, .junk], [.rows 118 true (.pair .str .str)]⟩
noncomputable abbrev E_sPutKey_0_0 : SS := ⟨[.junk, .junk, .junk, .junk, .junk, .junk, .all 0 2, .junk, .junk, .junk, .junk, .junk, .junk, .junk, .junk, .junk, .junk, .junk, .junk, .junk, .junk, .junk, .junk, .junk, .junk, .junk, .junk, .junk, .junk, .junk, .junk, .junk, .junk, .junk, .junk, .junk, .junk, .junk, .junk, .junk, .junk, .junk, .junk, .junk, .junk, .junk, .junk, .junk, .junk, .junk, .junk, .junk, .junk, .junk, .junk, .junk, .junk, .junk, .junk, .junk, .junk, .junk], [.rows 118 true (.pair .str .str)]⟩
noncomputable abbrev E_sPutKey_0_1 : SS := ⟨[.t false (.sl (.pair .str .str)), .t true .str, .t true .str, .junk, .junk, .junk, .junk, .junk, .junk, .junk, .junk, .junk, .junk, .junk, .junk, .junk, .junk, .junk, .junk, .junk, .junk, .junk, .junk, .junk, .junk, .junk, .junk, .junk, .junk, .junk, .junk, .junk, .junk, .junk, .junk, .junk, .junk, .junk, .junk, .junk, .junk, .junk, .junk, .junk, .junk, .junk, .junk, .junk, .junk, .junk, .junk, .junk, .junk, .junk, .junk, .junk, .junk, .junk, .junk, .junk, .junk, .junk], []⟩
noncomputable def st_sPutKey_0 (x0 : List (ByteArray × ByteArray)) (x1 : ByteArray) (x2 : ByteArray) (x8 : Int) (h0 : List (ByteArray × ByteArray)) : RT S_sPutKey_0.den := (.br (decide (x8 < ((h0.length : Nat) : Int))) (.br (decide (0 ≤ x8 ∧ x8 < ((h0.length : Nat) : Int))) (.br (((h0.getD x8.toNat ((⟨#[]⟩ : ByteArray), (⟨#[]⟩ : ByteArray))).1).toList == x1.toList) (.br (decide (0 ≤ x8 ∧ x8 < ((h0.length : Nat) : Int))) (.done .ret E_sPutKey_0_0 (((), (), (), (), (), (), (), (), (), (), (), (), (), (), (), (), (), (), (), (), (), (), (), (), (), (), (), (), (), (), (), (), (), (), (), (), (), (), (), (), (), (), (), (), (), (), (), (), (), (), (), (), (), (), (), (), (), (), (), (), (), (), ()), (h0.set x8.toNat ((h0.getD x8.toNat ((⟨#[]⟩ : ByteArray), (⟨#[]⟩ : ByteArray))).1, x2), ()))) .fail) (.next ((x0, x1, x2, (), (), (), (), (), IntKind.wrap .i64 (x8 + (1 : Int)), (), (), (), (), (), (), (), (), (), (), (), (), (), (), (), (), (), (), (), (), (), (), (), (), (), (), (), (), (), (), (), (), (), (), (), (), (), (), (), (), (), (), (), (), (), (), (), (), (), (), (), (), (), ()), (h0, ())))) .fail) (.done (.exit 0) E_sPutKey_0_1 ((x0, x1, x2, (), (), (), (), (), (), (), (), (), (), (), (), (), (), (), (), (), (), (), (), (), (), (), (), (), (), (), (), (), (), (), (), (), (), (), (), (), (), (), (), (), (), (), (), (), (), (), (), (), (), (), (), (), (), (), (), (), (), (), ()), ())))
noncomputable abbrev V_sPutKey_0 := (List (ByteArray × ByteArray)) × (ByteArray) × (ByteArray) × (Int) × (List (ByteArray × ByteArray))
noncomputable abbrev A_sPutKey_0 := Nat × (List (ByteArray × ByteArray)) × (List (ByteArray × ByteArray)) × (ByteArray) × (ByteArray)
noncomputable def fl_sPutKey_0 : A_sPutKey_0 := (99, ([] : List (ByteArray × ByteArray)), ([] : List (ByteArray × ByteArray)), ((⟨#[]⟩ : ByteArray) : ByteArray), ((⟨#[]⟩ : ByteArray) : ByteArray))
noncomputable def ss_sPutKey_0 (x0 : List (ByteArray × ByteArray)) (x1 : ByteArray) (x2 : ByteArray) (x8 : Int) (h0 : List (ByteArray × ByteArray)) : V_sPutKey_0 ⊕ A_sPutKey_0 := (cond (decide (x8 < ((h0.length : Nat) : Int))) (cond (decide (0 ≤ x8 ∧ x8 < ((h0.length : Nat) : Int))) (cond (((h0.getD x8.toNat ((⟨#[]⟩ : ByteArray), (⟨#[]⟩ : ByteArray))).1).toList == x1.toList) (cond (decide (0 ≤ x8 ∧ x8 < ((h0.length : Nat) : Int))) (.inr (0, h0.set x8.toNat ((h0.getD x8.toNat ((⟨#[]⟩ : ByteArray), (⟨#[]⟩ : ByteArray))).1, x2), ([] : List (ByteArray × ByteArray)), ((⟨#[]⟩ : ByteArray) : ByteArray), ((⟨#[]⟩ : ByteArray) : ByteArray))) (.inr fl_sPutKey_0)) (.inl (x0, x1, x2, IntKind.wrap .i64 (x8 + (1 : Int)), h0))) (.inr fl_sPutKey_0)) (.inr (1, ([] : List (ByteArray × ByteArray)), x0, x1, x2)))
noncomputable def it_sPutKey_0 (x0 : List (ByteArray × ByteArray)) (x1 : ByteArray) (x2 : ByteArray) (x8 : Int) (h0 : List (ByteArray × ByteArray)) : A_sPutKey_0 := itX (fun v : V_sPutKey_0 => ss_sPutKey_0 v.1 v.2.1 v.2.2.1 v.2.2.2.1 v.2.2.2.2) fl_sPutKey_0 (x0, x1, x2, x8, h0)
noncomputable def ct_sPutKey_0 (a : A_sPutKey_0) : CT := (.br (a.1 == 0) (.done .ret E_sPutKey_0_0 (((), (), (), (), (), (), (), (), (), (), (), (), (), (), (), (), (), (), (), (), (), (), (), (), (), (), (), (), (), (), (), (), (), (), (), (), (), (), (), (), (), (), (), (), (), (), (), (), (), (), (), (), (), (), (), (), (), (), (), (), (), (), ()), (a.2.1, ()))) (.br (a.1 == 1) (.done (.exit 0) E_sPutKey_0_1 ((a.2.2.1, a.2.2.2.1, a.2.2.2.2, (), (), (), (), (), (), (), (), (), (), (), (), (), (), (), (), (), (), (), (), (), (), (), (), (), (), (), (), (), (), (), (), (), (), (), (), (), (), (), (), (), (), (), (), (), (), (), (), (), (), (), (), (), (), (), (), (), (), (), ()), ())) .fail))
noncomputable def T_sPutKey_0 (x0 : List (ByteArray × ByteArray)) (x1 : ByteArray) (x2 : ByteArray) (x8 : Int) (h0 : List (ByteArray × ByteArray)) : CT := ct_sPutKey_0 (it_sPutKey_0 x0 x1 x2 x8 h0)
noncomputable abbrev sp_sPutKey_0 : S_sPutKey_0.den → RT S_sPutKey_0.den := fun d => st_sPutKey_0 d.1.1 d.1.2.1 d.1.2.2.1 d.1.2.2.2.2.2.2.2.2.1 d.2.1
noncomputable abbrev pk_sPutKey_0 (x0 : List (ByteArray × ByteArray)) (x1 : ByteArray) (x2 : ByteArray) (x8 : Int) (h0 : List (ByteArray × ByteArray)) : S_sPutKey_0.den := ((x0, x1, x2, (), (), (), (), (), x8, (), (), (), (), (), (), (), (), (), (), (), (), (), (), (), (), (), (), (), (), (), (), (), (), (), (), (), (), (), (), (), (), (), (), (), (), (), (), (), (), (), (), (), (), (), (), (), (), (), (), (), (), (), ()), (h0, ()))
theorem R_sPutKey_0 (x0 : List (ByteArray × ByteArray)) (x1 : ByteArray) (x2 : ByteArray) (x8 : Int) (h0 : List (ByteArray × ByteArray)) : (T_sPutKey_0 x0 x1 x2 x8 h0).val (D := S_sPutKey_0.den) = .fail ∨ Runs sp_sPutKey_0 (pk_sPutKey_0 x0 x1 x2 x8 h0) (T_sPutKey_0 x0 x1 x2 x8 h0).val := Runs.ofIt (step := sp_sPutKey_0) (fun v : V_sPutKey_0 => pk_sPutKey_0 v.1 v.2.1 v.2.2.1 v.2.2.2.1 v.2.2.2.2) (ct := ct_sPutKey_0) rfl (fun v => ((relB (relB (relB (relB rfl rfl) rfl) rfl) rfl) : (st_sPutKey_0 v.1 v.2.1 v.2.2.1 v.2.2.2.1 v.2.2.2.2).val = relS (fun v : V_sPutKey_0 => pk_sPutKey_0 v.1 v.2.1 v.2.2.1 v.2.2.2.1 v.2.2.2.2) ct_sPutKey_0 (ss_sPutKey_0 v.1 v.2.1 v.2.2.1 v.2.2.2.1 v.2.2.2.2))) (fun a => ((cendB (cendD (by simp)) (cendB (cendD (by simp)) cendF)) : CEnd _ (ct_sPutKey_0 a))) (x0, x1, x2, x8, h0)
theorem rd_sPutKey_0 : ∀ d, execC Try.prog tt S7 QF7 (fun _ _ => none) 0 body_sPutKey_0 (S_sPutKey_0.st d 0 []) (fun e s' => some (e, S_sPutKey_0.cutE (kepts [6] [(0, [0, 1, 2])]) e s')) = (sp_sPutKey_0 d).opt 0 [] := by
  intro d
  kernel_rfl
noncomputable abbrev say_sPutKey_0 : St → Option Tree := S_sPutKey_0.say 0 [] [] (fun d => T_sPutKey_0 d.1.1 d.1.2.1 d.1.2.2.1 d.1.2.2.2.2.2.2.2.2.1 d.2.1)
theorem lw_sPutKey_0 : LoopWp Try.prog say_sPutKey_0 body_sPutKey_0 := SS.wp G7 (fun _ _ => none) (by rw [show loopsIn 0 body_sPutKey_0 = [] by kernel_rfl]; simp) S_sPutKey_0 0 [] (kepts [6] [(0, [0, 1, 2])]) [] sp_sPutKey_0 rd_sPutKey_0 _ (fun d => R_sPutKey_0 d.1.1 d.1.2.1 d.1.2.2.1 d.1.2.2.2.2.2.2.2.2.1 d.2.1)
noncomputable abbrev S_sPutKey_1 : SS := ⟨[.t false (.sl (.pair .str .str)), .t true .str, .t true .str, .junk, .junk, .junk, .junk, .junk, .junk, .t true (.int .i64), .junk, .junk, .junk, .junk, .junk, .junk, .junk, .junk, .junk, .junk, .junk, .junk, .junk, .junk, .junk, .junk, .junk, .junk, .junk, .junk, .junk, .junk, .junk, .junk, .junk, .junk, .junk, .junk, .junk, .junk, .junk, .junk, .junk, .junk, .junk, .junk, .junk, .junk, .junk, .junk, .junk, .junk, .junk, .junk, .junk, .junk, .junk, .junk, .junk, .junk, .junk, .junk], []⟩
noncomputable abbrev E_sPutKey_1_0 : SS := ⟨[.t false (.sl (.pair .str .str)), .t true .str, .t true .str, .junk, .junk, .junk, .junk, .junk, .junk, .t true (.int .i64), .junk, .junk, .junk, .junk, .junk, .junk, .junk, .junk, .junk, .junk, .junk, .junk, .junk, .junk, .junk, .junk, .junk, .junk, .junk, .junk, .junk, .junk, .junk, .junk, .junk, .junk, .junk, .junk, .junk, .junk, .junk, .junk, .junk, .junk, .junk, .junk, .junk, .junk, .junk, .junk, .junk, .junk, .junk, .junk, .junk, .junk, .junk, .junk, .junk, .junk, .junk, .junk], []⟩
noncomputable def st_sPutKey_1 (x0 : List (ByteArray × ByteArray)) (x1 : ByteArray) (x2 : ByteArray) (x9 : Int) : RT S_sPutKey_1.den := (.br (decide (x9 < ((x0.length : Nat) : Int))) (.br (decide (0 ≤ x9 ∧ x9 < ((x0.length : Nat) : Int))) (.br (Op.bytesLess ((x0.getD x9.toNat ((⟨#[]⟩ : ByteArray), (⟨#[]⟩ : ByteArray))).1).toList x1.toList || (((x0.getD x9.toNat ((⟨#[]⟩ : ByteArray), (⟨#[]⟩ : ByteArray))).1).toList == x1.toList)) (.next ((x0, x1, x2, (), (), (), (), (), (), IntKind.wrap .i64 (x9 + (1 : Int)), (), (), (), (), (), (), (), (), (), (), (), (), (), (), (), (), (), (), (), (), (), (), (), (), (), (), (), (), (), (), (), (), (), (), (), (), (), (), (), (), (), (), (), (), (), (), (), (), (), (), (), (), ()), ())) (.done (.exit 2) E_sPutKey_1_0 ((x0, x1, x2, (), (), (), (), (), (), x9, (), (), (), (), (), (), (), (), (), (), (), (), (), (), (), (), (), (), (), (), (), (), (), (), (), (), (), (), (), (), (), (), (), (), (), (), (), (), (), (), (), (), (), (), (), (), (), (), (), (), (), (), ()), ()))) .fail) (.done (.exit 2) E_sPutKey_1_0 ((x0, x1, x2, (), (), (), (), (), (), x9, (), (), (), (), (), (), (), (), (), (), (), (), (), (), (), (), (), (), (), (), (), (), (), (), (), (), (), (), (), (), (), (), (), (), (), (), (), (), (), (), (), (), (), (), (), (), (), (), (), (), (), (), ()), ())))
noncomputable abbrev V_sPutKey_1 := (List (ByteArray × ByteArray)) × (ByteArray) × (ByteArray) × (Int)
noncomputable abbrev A_sPutKey_1 := Nat × (List (ByteArray × ByteArray)) × (ByteArray) × (ByteArray) × (Int)
noncomputable def fl_sPutKey_1 : A_sPutKey_1 := (99, ([] : List (ByteArray × ByteArray)), ((⟨#[]⟩ : ByteArray) : ByteArray), ((⟨#[]⟩ : ByteArray) : ByteArray), ((0 : Int) : Int))
noncomputable def ss_sPutKey_1 (x0 : List (ByteArray × ByteArray)) (x1 : ByteArray) (x2 : ByteArray) (x9 : Int) : V_sPutKey_1 ⊕ A_sPutKey_1 := (cond (decide (x9 < ((x0.length : Nat) : Int))) (cond (decide (0 ≤ x9 ∧ x9 < ((x0.length : Nat) : Int))) (cond (Op.bytesLess ((x0.getD x9.toNat ((⟨#[]⟩ : ByteArray), (⟨#[]⟩ : ByteArray))).1).toList x1.toList || (((x0.getD x9.toNat ((⟨#[]⟩ : ByteArray), (⟨#[]⟩ : ByteArray))).1).toList == x1.toList)) (.inl (x0, x1, x2, IntKind.wrap .i64 (x9 + (1 : Int)))) (.inr (0, x0, x1, x2, x9))) (.inr fl_sPutKey_1)) (.inr (0, x0, x1, x2, x9)))
noncomputable def it_sPutKey_1 (x0 : List (ByteArray × ByteArray)) (x1 : ByteArray) (x2 : ByteArray) (x9 : Int) : A_sPutKey_1 := itX (fun v : V_sPutKey_1 => ss_sPutKey_1 v.1 v.2.1 v.2.2.1 v.2.2.2) fl_sPutKey_1 (x0, x1, x2, x9)
noncomputable def ct_sPutKey_1 (a : A_sPutKey_1) : CT := (.br (a.1 == 0) (.done (.exit 2) E_sPutKey_1_0 ((a.2.1, a.2.2.1, a.2.2.2.1, (), (), (), (), (), (), a.2.2.2.2, (), (), (), (), (), (), (), (), (), (), (), (), (), (), (), (), (), (), (), (), (), (), (), (), (), (), (), (), (), (), (), (), (), (), (), (), (), (), (), (), (), (), (), (), (), (), (), (), (), (), (), (), ()), ())) .fail)
noncomputable def T_sPutKey_1 (x0 : List (ByteArray × ByteArray)) (x1 : ByteArray) (x2 : ByteArray) (x9 : Int) : CT := ct_sPutKey_1 (it_sPutKey_1 x0 x1 x2 x9)
noncomputable abbrev sp_sPutKey_1 : S_sPutKey_1.den → RT S_sPutKey_1.den := fun d => st_sPutKey_1 d.1.1 d.1.2.1 d.1.2.2.1 d.1.2.2.2.2.2.2.2.2.2.1
noncomputable abbrev pk_sPutKey_1 (x0 : List (ByteArray × ByteArray)) (x1 : ByteArray) (x2 : ByteArray) (x9 : Int) : S_sPutKey_1.den := ((x0, x1, x2, (), (), (), (), (), (), x9, (), (), (), (), (), (), (), (), (), (), (), (), (), (), (), (), (), (), (), (), (), (), (), (), (), (), (), (), (), (), (), (), (), (), (), (), (), (), (), (), (), (), (), (), (), (), (), (), (), (), (), (), ()), ())
theorem R_sPutKey_1 (x0 : List (ByteArray × ByteArray)) (x1 : ByteArray) (x2 : ByteArray) (x9 : Int) : (T_sPutKey_1 x0 x1 x2 x9).val (D := S_sPutKey_1.den) = .fail ∨ Runs sp_sPutKey_1 (pk_sPutKey_1 x0 x1 x2 x9) (T_sPutKey_1 x0 x1 x2 x9).val := Runs.ofIt (step := sp_sPutKey_1) (fun v : V_sPutKey_1 => pk_sPutKey_1 v.1 v.2.1 v.2.2.1 v.2.2.2) (ct := ct_sPutKey_1) rfl (fun v => ((relB (relB (relB rfl rfl) rfl) rfl) : (st_sPutKey_1 v.1 v.2.1 v.2.2.1 v.2.2.2).val = relS (fun v : V_sPutKey_1 => pk_sPutKey_1 v.1 v.2.1 v.2.2.1 v.2.2.2) ct_sPutKey_1 (ss_sPutKey_1 v.1 v.2.1 v.2.2.1 v.2.2.2))) (fun a => ((cendB (cendD (by simp)) cendF) : CEnd _ (ct_sPutKey_1 a))) (x0, x1, x2, x9)
theorem rd_sPutKey_1 : ∀ d, execC Try.prog tt S7 QF7 (fun _ _ => none) 2 body_sPutKey_1 (S_sPutKey_1.st d 0 []) (fun e s' => some (e, S_sPutKey_1.cutE (kepts [] [(2, [0, 1, 2, 9])]) e s')) = (sp_sPutKey_1 d).opt 0 [] := by
  intro d
  kernel_rfl
noncomputable abbrev say_sPutKey_1 : St → Option Tree := S_sPutKey_1.say 0 [] [] (fun d => T_sPutKey_1 d.1.1 d.1.2.1 d.1.2.2.1 d.1.2.2.2.2.2.2.2.2.2.1)
theorem lw_sPutKey_1 : LoopWp Try.prog say_sPutKey_1 body_sPutKey_1 := SS.wp G7 (fun _ _ => none) (by rw [show loopsIn 2 body_sPutKey_1 = [] by kernel_rfl]; simp) S_sPutKey_1 0 [] (kepts [] [(2, [0, 1, 2, 9])]) [] sp_sPutKey_1 rd_sPutKey_1 _ (fun d => R_sPutKey_1 d.1.1 d.1.2.1 d.1.2.2.1 d.1.2.2.2.2.2.2.2.2.2.1)
noncomputable def k1_sPutKey (a0 : List (ByteArray × ByteArray)) (a1 : ByteArray) (a2 : ByteArray) := it_sPutKey_1 ((it_sPutKey_0 a0 a1 a2 (0 : Int) (([] : List (ByteArray × ByteArray)) ++ a0)).2.2.1) ((it_sPutKey_0 a0 a1 a2 (0 : Int) (([] : List (ByteArray × ByteArray)) ++ a0)).2.2.2.1) ((it_sPutKey_0 a0 a1 a2 (0 : Int) (([] : List (ByteArray × ByteArray)) ++ a0)).2.2.2.2) (0 : Int)
noncomputable def sPutKey (a0 : List (ByteArray × ByteArray)) (a1 : ByteArray) (a2 : ByteArray) : List (ByteArray × ByteArray) := (cond ((it_sPutKey_0 a0 a1 a2 (0 : Int) (([] : List (ByteArray × ByteArray)) ++ a0)).1 == 0) ((it_sPutKey_0 a0 a1 a2 (0 : Int) (([] : List (ByteArray × ByteArray)) ++ a0)).2.1) (((([] : List (ByteArray × ByteArray)) ++ ((((k1_sPutKey a0 a1 a2).2.1).take ((k1_sPutKey a0 a1 a2).2.2.2.2).toNat).drop (0 : Int).toNat)) ++ [(((k1_sPutKey a0 a1 a2).2.2.1), ((k1_sPutKey a0 a1 a2).2.2.2.1))]) ++ ((((k1_sPutKey a0 a1 a2).2.1).take ((((k1_sPutKey a0 a1 a2).2.1).length : Nat) : Int).toNat).drop ((k1_sPutKey a0 a1 a2).2.2.2.2).toNat)))
noncomputable abbrev e_sPutKey (r : List (ByteArray × ByteArray)) : AV × List AObj := ((.all 0 2), [(.rows 118 true (.pair .str .str) r)])
noncomputable abbrev g_sPutKey : pshsDen P_sPutKey → AV × List AObj := fun d => e_sPutKey (sPutKey d.1 d.2.1 d.2.2.1)
noncomputable def q_sPutKey (a0 : List (ByteArray × ByteArray)) (a1 : ByteArray) (a2 : ByteArray) : Bool := (decide ((([] : List (ByteArray × ByteArray)).length + a0.length) * 32 ≤ MAXB)) && (cond ((it_sPutKey_0 a0 a1 a2 (0 : Int) (([] : List (ByteArray × ByteArray)) ++ a0)).1 == 0) true (((it_sPutKey_0 a0 a1 a2 (0 : Int) (([] : List (ByteArray × ByteArray)) ++ a0)).1 == 1) && (((k1_sPutKey a0 a1 a2).1 == 0) && ((decide (0 ≤ (0 : Int) ∧ (0 : Int) ≤ ((k1_sPutKey a0 a1 a2).2.2.2.2) ∧ ((k1_sPutKey a0 a1 a2).2.2.2.2) ≤ ((((k1_sPutKey a0 a1 a2).2.1).length : Nat) : Int))) && ((decide ((([] : List (ByteArray × ByteArray)).length + ((((k1_sPutKey a0 a1 a2).2.1).take ((k1_sPutKey a0 a1 a2).2.2.2.2).toNat).drop (0 : Int).toNat).length) * 32 ≤ MAXB)) && ((decide (((([] : List (ByteArray × ByteArray)) ++ ((((k1_sPutKey a0 a1 a2).2.1).take ((k1_sPutKey a0 a1 a2).2.2.2.2).toNat).drop (0 : Int).toNat)).length + [(((k1_sPutKey a0 a1 a2).2.2.1), ((k1_sPutKey a0 a1 a2).2.2.2.1))].length) * 32 ≤ MAXB)) && ((decide (0 ≤ ((k1_sPutKey a0 a1 a2).2.2.2.2) ∧ ((k1_sPutKey a0 a1 a2).2.2.2.2) ≤ ((((k1_sPutKey a0 a1 a2).2.1).length : Nat) : Int) ∧ ((((k1_sPutKey a0 a1 a2).2.1).length : Nat) : Int) ≤ ((((k1_sPutKey a0 a1 a2).2.1).length : Nat) : Int))) && (decide ((((([] : List (ByteArray × ByteArray)) ++ ((((k1_sPutKey a0 a1 a2).2.1).take ((k1_sPutKey a0 a1 a2).2.2.2.2).toNat).drop (0 : Int).toNat)) ++ [(((k1_sPutKey a0 a1 a2).2.2.1), ((k1_sPutKey a0 a1 a2).2.2.2.1))]).length + ((((k1_sPutKey a0 a1 a2).2.1).take ((((k1_sPutKey a0 a1 a2).2.1).length : Nat) : Int).toNat).drop ((k1_sPutKey a0 a1 a2).2.2.2.2).toNat).length) * 32 ≤ MAXB)))))))))
noncomputable abbrev pre_sPutKey : pshsDen P_sPutKey → Bool := fun d => q_sPutKey d.1 d.2.1 d.2.2.1
theorem runA_sPutKey (a0 : List (ByteArray × ByteArray)) (a1 : ByteArray) (a2 : ByteArray) (hp : ((decide ((([] : List (ByteArray × ByteArray)).length + a0.length) * 32 ≤ MAXB)) && (cond ((it_sPutKey_0 a0 a1 a2 (0 : Int) (([] : List (ByteArray × ByteArray)) ++ a0)).1 == 0) true (((it_sPutKey_0 a0 a1 a2 (0 : Int) (([] : List (ByteArray × ByteArray)) ++ a0)).1 == 1) && (((k1_sPutKey a0 a1 a2).1 == 0) && ((decide (0 ≤ (0 : Int) ∧ (0 : Int) ≤ ((k1_sPutKey a0 a1 a2).2.2.2.2) ∧ ((k1_sPutKey a0 a1 a2).2.2.2.2) ≤ ((((k1_sPutKey a0 a1 a2).2.1).length : Nat) : Int))) && ((decide ((([] : List (ByteArray × ByteArray)).length + ((((k1_sPutKey a0 a1 a2).2.1).take ((k1_sPutKey a0 a1 a2).2.2.2.2).toNat).drop (0 : Int).toNat).length) * 32 ≤ MAXB)) && ((decide (((([] : List (ByteArray × ByteArray)) ++ ((((k1_sPutKey a0 a1 a2).2.1).take ((k1_sPutKey a0 a1 a2).2.2.2.2).toNat).drop (0 : Int).toNat)).length + [(((k1_sPutKey a0 a1 a2).2.2.1), ((k1_sPutKey a0 a1 a2).2.2.2.1))].length) * 32 ≤ MAXB)) && ((decide (0 ≤ ((k1_sPutKey a0 a1 a2).2.2.2.2) ∧ ((k1_sPutKey a0 a1 a2).2.2.2.2) ≤ ((((k1_sPutKey a0 a1 a2).2.1).length : Nat) : Int) ∧ ((((k1_sPutKey a0 a1 a2).2.1).length : Nat) : Int) ≤ ((((k1_sPutKey a0 a1 a2).2.1).length : Nat) : Int))) && (decide ((((([] : List (ByteArray × ByteArray)) ++ ((((k1_sPutKey a0 a1 a2).2.1).take ((k1_sPutKey a0 a1 a2).2.2.2.2).toNat).drop (0 : Int).toNat)) ++ [(((k1_sPutKey a0 a1 a2).2.2.1), ((k1_sPutKey a0 a1 a2).2.2.2.1))]).length + ((((k1_sPutKey a0 a1 a2).2.1).take ((((k1_sPutKey a0 a1 a2).2.1).length : Nat) : Int).toNat).drop ((k1_sPutKey a0 a1 a2).2.2.2.2).toNat).length) * 32 ≤ MAXB)))))))))) = true) : runP false Try.prog tt S7 QF7 (fun b => match b with | 0 => say_sPutKey_0 | 2 => say_sPutKey_1 | _ => fun _ => none) Try.f103 (argsMk P_sPutKey (a0, (a1, (a2, ())))) = some (g_sPutKey (a0, (a1, (a2, ())))) := by
  refine Eq.trans (b := (cond (decide ((([] : List (ByteArray × ByteArray)).length + a0.length) * 32 ≤ MAXB)) (cond ((it_sPutKey_0 a0 a1 a2 (0 : Int) (([] : List (ByteArray × ByteArray)) ++ a0)).1 == 0) (some (e_sPutKey ((it_sPutKey_0 a0 a1 a2 (0 : Int) (([] : List (ByteArray × ByteArray)) ++ a0)).2.1))) (cond ((it_sPutKey_0 a0 a1 a2 (0 : Int) (([] : List (ByteArray × ByteArray)) ++ a0)).1 == 1) (cond ((k1_sPutKey a0 a1 a2).1 == 0) (cond (decide (0 ≤ (0 : Int) ∧ (0 : Int) ≤ ((k1_sPutKey a0 a1 a2).2.2.2.2) ∧ ((k1_sPutKey a0 a1 a2).2.2.2.2) ≤ ((((k1_sPutKey a0 a1 a2).2.1).length : Nat) : Int))) (cond (decide ((([] : List (ByteArray × ByteArray)).length + ((((k1_sPutKey a0 a1 a2).2.1).take ((k1_sPutKey a0 a1 a2).2.2.2.2).toNat).drop (0 : Int).toNat).length) * 32 ≤ MAXB)) (cond (decide (((([] : List (ByteArray × ByteArray)) ++ ((((k1_sPutKey a0 a1 a2).2.1).take ((k1_sPutKey a0 a1 a2).2.2.2.2).toNat).drop (0 : Int).toNat)).length + [(((k1_sPutKey a0 a1 a2).2.2.1), ((k1_sPutKey a0 a1 a2).2.2.2.1))].length) * 32 ≤ MAXB)) (cond (decide (0 ≤ ((k1_sPutKey a0 a1 a2).2.2.2.2) ∧ ((k1_sPutKey a0 a1 a2).2.2.2.2) ≤ ((((k1_sPutKey a0 a1 a2).2.1).length : Nat) : Int) ∧ ((((k1_sPutKey a0 a1 a2).2.1).length : Nat) : Int) ≤ ((((k1_sPutKey a0 a1 a2).2.1).length : Nat) : Int))) (cond (decide ((((([] : List (ByteArray × ByteArray)) ++ ((((k1_sPutKey a0 a1 a2).2.1).take ((k1_sPutKey a0 a1 a2).2.2.2.2).toNat).drop (0 : Int).toNat)) ++ [(((k1_sPutKey a0 a1 a2).2.2.1), ((k1_sPutKey a0 a1 a2).2.2.2.1))]).length + ((((k1_sPutKey a0 a1 a2).2.1).take ((((k1_sPutKey a0 a1 a2).2.1).length : Nat) : Int).toNat).drop ((k1_sPutKey a0 a1 a2).2.2.2.2).toNat).length) * 32 ≤ MAXB)) (some (e_sPutKey (((([] : List (ByteArray × ByteArray)) ++ ((((k1_sPutKey a0 a1 a2).2.1).take ((k1_sPutKey a0 a1 a2).2.2.2.2).toNat).drop (0 : Int).toNat)) ++ [(((k1_sPutKey a0 a1 a2).2.2.1), ((k1_sPutKey a0 a1 a2).2.2.2.1))]) ++ ((((k1_sPutKey a0 a1 a2).2.1).take ((((k1_sPutKey a0 a1 a2).2.1).length : Nat) : Int).toNat).drop ((k1_sPutKey a0 a1 a2).2.2.2.2).toNat)))) none) none) none) none) none) none) none)) none)) (by kernel_rfl) ?_
  exact (cndT (andL hp) (fun _h => (fun hp => (cndQ (F := fun r => some (e_sPutKey r)) hp (fun hp => rfl) (fun hp => (cndT (andL hp) (fun _h => (fun hp => (cndT (andL hp) (fun _h => (fun hp => (cndT (andL hp) (fun _h => (fun hp => (cndT (andL hp) (fun _h => (fun hp => (cndT (andL hp) (fun _h => (fun hp => (cndT (andL hp) (fun _h => (fun hp => (cndT hp (fun _h => rfl))) (andR hp)))) (andR hp)))) (andR hp)))) (andR hp)))) (andR hp)))) (andR hp)))))) (andR hp)))
theorem run_sPutKey : ∀ d, pre_sPutKey d = true → runP false Try.prog tt S7 QF7 (fun b => match b with | 0 => say_sPutKey_0 | 2 => say_sPutKey_1 | _ => fun _ => none) Try.f103 (argsMk P_sPutKey d) = some (g_sPutKey d) := fun d hp => runA_sPutKey d.1 d.2.1 d.2.2.1 hp
theorem c_sPutKey : PContract Try.prog 103 (sumOf P_sPutKey pre_sPutKey g_sPutKey) := PContract.of_data false G7 (fn := Try.f103) (by kernel_rfl) (L := fun b => match b with | 0 => say_sPutKey_0 | 2 => say_sPutKey_1 | _ => fun _ => none) (by
    rw [show loopsIn 0 (bodyOf Try.f103) = [(0, body_sPutKey_0), (2, body_sPutKey_1)] by kernel_rfl]; intro p hp; simp only [List.mem_cons, List.mem_nil_iff, or_false] at hp
    rcases hp with rfl | rfl
    · exact lw_sPutKey_0
    · exact lw_sPutKey_1) P_sPutKey pre_sPutKey g_sPutKey run_sPutKey
noncomputable def S8 : Tab := Tab.add S7 103 (lift (sumOf P_sPutKey pre_sPutKey g_sPutKey))
noncomputable def QF8 : FuncId → Bool := QF7
theorem G8 : Good Try.prog tt S8 QF8 := G7.add c_sPutKey ⟨Try.f103, by kernel_rfl, by kernel_rfl, by kernel_rfl⟩ (by kernel_rfl)

/-! 124 loop.example/g00244/spec.l3Draw -/
noncomputable abbrev SM_sl3Draw : SS := ⟨[.ptr 0 0 1 0], [.box [.t false (.sl (.int .u8)), .t true (.int .i64), .t true (.int .i64)]]⟩
noncomputable abbrev S_sl3Draw_0 : SS := ⟨[.ptr 0 0 1 0, .junk, .junk, .all 1 2, .t true (.int .i64), .junk, .junk, .junk, .junk, .junk, .junk, .junk, .junk, .junk, .junk, .junk, .junk, .junk, .junk], [.box [.t false (.sl (.int .u8)), .t true (.int .i64), .t true (.int .i64)], .rows 118 true (.pair .str .str)]⟩
noncomputable abbrev E_sl3Draw_0_0 : SS := ⟨[.junk, .junk, .junk, .all 1 2, .junk, .junk, .junk, .junk, .junk, .junk, .junk, .junk, .junk, .junk, .junk, .junk, .junk, .junk, .junk], [.box [.t false (.sl (.int .u8)), .t true (.int .i64), .t true (.int .i64)], .rows 118 true (.pair .str .str)]⟩
noncomputable def k1_sl3Draw (h0_0 : List Int) (h0_1 : Int) (h0_2 : Int) := sl3Val ((sl3Key h0_0 h0_1 h0_2).2.1) ((sl3Key h0_0 h0_1 h0_2).2.2.1) ((sl3Key h0_0 h0_1 h0_2).2.2.2)
noncomputable def st_sl3Draw_0 (x4 : Int) (h0_0 : List Int) (h0_1 : Int) (h0_2 : Int) (h1 : List (ByteArray × ByteArray)) : RT S_sl3Draw_0.den := (.br (decide (x4 > (0 : Int))) (.br (q_sl3Key h0_0 h0_1 h0_2) (.br (q_sl3Val ((sl3Key h0_0 h0_1 h0_2).2.1) ((sl3Key h0_0 h0_1 h0_2).2.2.1) ((sl3Key h0_0 h0_1 h0_2).2.2.2)) (.br (q_sPutKey h1 ((sl3Key h0_0 h0_1 h0_2).1) ((k1_sl3Draw h0_0 h0_1 h0_2).1)) (.next (((), (), (), (), IntKind.wrap .i64 (x4 - (1 : Int)), (), (), (), (), (), (), (), (), (), (), (), (), (), (), ()), ((((k1_sl3Draw h0_0 h0_1 h0_2).2.1), ((k1_sl3Draw h0_0 h0_1 h0_2).2.2.1), ((k1_sl3Draw h0_0 h0_1 h0_2).2.2.2), ()), (sPutKey h1 ((sl3Key h0_0 h0_1 h0_2).1) ((k1_sl3Draw h0_0 h0_1 h0_2).1)), ()))) .fail) .fail) .fail) (.done (.exit 0) E_sl3Draw_0_0 (((), (), (), (), (), (), (), (), (), (), (), (), (), (), (), (), (), (), (), ()), ((h0_0, h0_1, h0_2, ()), h1, ()))))
noncomputable abbrev V_sl3Draw_0 := (Int) × (List Int) × (Int) × (Int) × (List (ByteArray × ByteArray))
noncomputable abbrev A_sl3Draw_0 := Nat × (List Int) × (Int) × (Int) × (List (ByteArray × ByteArray))
noncomputable def fl_sl3Draw_0 : A_sl3Draw_0 := (99, ([] : List Int), ((0 : Int) : Int), ((0 : Int) : Int), ([] : List (ByteArray × ByteArray)))
noncomputable def ss_sl3Draw_0 (x4 : Int) (h0_0 : List Int) (h0_1 : Int) (h0_2 : Int) (h1 : List (ByteArray × ByteArray)) : V_sl3Draw_0 ⊕ A_sl3Draw_0 := (cond (decide (x4 > (0 : Int))) (cond (q_sl3Key h0_0 h0_1 h0_2) (cond (q_sl3Val ((sl3Key h0_0 h0_1 h0_2).2.1) ((sl3Key h0_0 h0_1 h0_2).2.2.1) ((sl3Key h0_0 h0_1 h0_2).2.2.2)) (cond (q_sPutKey h1 ((sl3Key h0_0 h0_1 h0_2).1) ((k1_sl3Draw h0_0 h0_1 h0_2).1)) (.inl (IntKind.wrap .i64 (x4 - (1 : Int)), ((k1_sl3Draw h0_0 h0_1 h0_2).2.1), ((k1_sl3Draw h0_0 h0_1 h0_2).2.2.1), ((k1_sl3Draw h0_0 h0_1 h0_2).2.2.2), (sPutKey h1 ((sl3Key h0_0 h0_1 h0_2).1) ((k1_sl3Draw h0_0 h0_1 h0_2).1)))) (.inr fl_sl3Draw_0)) (.inr fl_sl3Draw_0)) (.inr fl_sl3Draw_0)) (.inr (0, h0_0, h0_1, h0_2, h1)))
noncomputable def it_sl3Draw_0 (x4 : Int) (h0_0 : List Int) (h0_1 : Int) (h0_2 : Int) (h1 : List (ByteArray × ByteArray)) : A_sl3Draw_0 := itX (fun v : V_sl3Draw_0 => ss_sl3Draw_0 v.1 v.2.1 v.2.2.1 v.2.2.2.1 v.2.2.2.2) fl_sl3Draw_0 (x4, h0_0, h0_1, h0_2, h1)
noncomputable def ct_sl3Draw_0 (a : A_sl3Draw_0) : CT := (.br (a.1 == 0) (.done (.exit 0) E_sl3Draw_0_0 (((), (), (), (), (), (), (), (), (), (), (), (), (), (), (), (), (), (), (), ()), ((a.2.1, a.2.2.1, a.2.2.2.1, ()), a.2.2.2.2, ()))) .fail)
noncomputable def T_sl3Draw_0 (x4 : Int) (h0_0 : List Int) (h0_1 : Int) (h0_2 : Int) (h1 : List (ByteArray × ByteArray)) : CT := ct_sl3Draw_0 (it_sl3Draw_0 x4 h0_0 h0_1 h0_2 h1)
noncomputable abbrev sp_sl3Draw_0 : S_sl3Draw_0.den → RT S_sl3Draw_0.den := fun d => st_sl3Draw_0 d.1.2.2.2.2.1 d.2.1.1 d.2.1.2.1 d.2.1.2.2.1 d.2.2.1
noncomputable abbrev pk_sl3Draw_0 (x4 : Int) (h0_0 : List Int) (h0_1 : Int) (h0_2 : Int) (h1 : List (ByteArray × ByteArray)) : S_sl3Draw_0.den := (((), (), (), (), x4, (), (), (), (), (), (), (), (), (), (), (), (), (), (), ()), ((h0_0, h0_1, h0_2, ()), h1, ()))
noncomputable def body_sl3Draw_0 : Code := ((loopsIn 0 (bodyOf Try.f124)).getD 0 (0, .skip)).2
theorem R_sl3Draw_0 (x4 : Int) (h0_0 : List Int) (h0_1 : Int) (h0_2 : Int) (h1 : List (ByteArray × ByteArray)) : (T_sl3Draw_0 x4 h0_0 h0_1 h0_2 h1).val (D := S_sl3Draw_0.den) = .fail ∨ Runs sp_sl3Draw_0 (pk_sl3Draw_0 x4 h0_0 h0_1 h0_2 h1) (T_sl3Draw_0 x4 h0_0 h0_1 h0_2 h1).val := Runs.ofIt (step := sp_sl3Draw_0) (fun v : V_sl3Draw_0 => pk_sl3Draw_0 v.1 v.2.1 v.2.2.1 v.2.2.2.1 v.2.2.2.2) (ct := ct_sl3Draw_0) rfl (fun v => ((relB (relB (relB (relB rfl rfl) rfl) rfl) rfl) : (st_sl3Draw_0 v.1 v.2.1 v.2.2.1 v.2.2.2.1 v.2.2.2.2).val = relS (fun v : V_sl3Draw_0 => pk_sl3Draw_0 v.1 v.2.1 v.2.2.1 v.2.2.2.1 v.2.2.2.2) ct_sl3Draw_0 (ss_sl3Draw_0 v.1 v.2.1 v.2.2.1 v.2.2.2.1 v.2.2.2.2))) (fun a => ((cendB (cendD (by simp)) cendF) : CEnd _ (ct_sl3Draw_0 a))) (x4, h0_0, h0_1, h0_2, h1)
theorem rd_sl3Draw_0 : ∀ d, execC Try.prog tt S8 QF8 (fun _ _ => none) 0 body_sl3Draw_0 (S_sl3Draw_0.st d 1 []) (fun e s' => some (e, S_sl3Draw_0.cutE (kepts [] [(0, [3])]) e s')) = (sp_sl3Draw_0 d).opt 1 [] := by
  intro d
  kernel_rfl
noncomputable abbrev say_sl3Draw_0 : St → Option Tree := S_sl3Draw_0.say 1 [] [] (fun d => T_sl3Draw_0 d.1.2.2.2.2.1 d.2.1.1 d.2.1.2.1 d.2.1.2.2.1 d.2.2.1)
theorem lw_sl3Draw_0 : LoopWp Try.prog say_sl3Draw_0 body_sl3Draw_0 := SS.wp G8 (fun _ _ => none) (by rw [show loopsIn 0 body_sl3Draw_0 = [] by kernel_rfl]; simp) S_sl3Draw_0 1 [] (kepts [] [(0, [3])]) [] sp_sl3Draw_0 rd_sl3Draw_0 _ (fun d => R_sl3Draw_0 d.1.2.2.2.2.1 d.2.1.1 d.2.1.2.1 d.2.1.2.2.1 d.2.2.1)
noncomputable def k2_sl3Draw (h0_0 : List Int) (h0_1 : Int) (h0_2 : Int) := it_sl3Draw_0 ((sl1Below (8 : Int) h0_0 h0_1 h0_2).1) ((sl1Below (8 : Int) h0_0 h0_1 h0_2).2.1) ((sl1Below (8 : Int) h0_0 h0_1 h0_2).2.2.1) ((sl1Below (8 : Int) h0_0 h0_1 h0_2).2.2.2) ([] : List (ByteArray × ByteArray))
noncomputable def sl3Draw (h0_0 : List Int) (h0_1 : Int) (h0_2 : Int) : (List Int) × Int × Int × List (ByteArray × ByteArray) := (((k2_sl3Draw h0_0 h0_1 h0_2).2.1), ((k2_sl3Draw h0_0 h0_1 h0_2).2.2.1), ((k2_sl3Draw h0_0 h0_1 h0_2).2.2.2.1), ((k2_sl3Draw h0_0 h0_1 h0_2).2.2.2.2))
noncomputable abbrev e_sl3Draw (r : (List Int) × Int × Int × List (ByteArray × ByteArray)) : AV × List AObj × List Nat := ((.all 1 2), [(.box [(.t false (.sl (.int .u8)) r.1), (.t true (.int .i64) r.2.1), (.t true (.int .i64) r.2.2.1)]), (.rows 118 true (.pair .str .str) r.2.2.2)], [])
noncomputable abbrev g_sl3Draw : SM_sl3Draw.den → AV × List AObj × List Nat := fun d => e_sl3Draw (sl3Draw d.2.1.1 d.2.1.2.1 d.2.1.2.2.1)
noncomputable def q_sl3Draw (h0_0 : List Int) (h0_1 : Int) (h0_2 : Int) : Bool := (q_sl1Below (8 : Int) h0_0 h0_1 h0_2) && ((k2_sl3Draw h0_0 h0_1 h0_2).1 == 0)
noncomputable abbrev pre_sl3Draw : SM_sl3Draw.den → Bool := fun d => q_sl3Draw d.2.1.1 d.2.1.2.1 d.2.1.2.2.1
theorem runA_sl3Draw (h0_0 : List Int) (h0_1 : Int) (h0_2 : Int) (hp : ((q_sl1Below (8 : Int) h0_0 h0_1 h0_2) && ((k2_sl3Draw h0_0 h0_1 h0_2).1 == 0)) = true) : runM Try.prog tt S8 QF8 (fun b => match b with | 0 => say_sl3Draw_0 | _ => fun _ => none) Try.f124 (shsMk SM_sl3Draw.sl ((((), ()), ((h0_0, h0_1, h0_2, ()), ())) : SM_sl3Draw.den).1) (ohsMk SM_sl3Draw.hp ((((), ()), ((h0_0, h0_1, h0_2, ()), ())) : SM_sl3Draw.den).2) = some (g_sl3Draw (((), ()), ((h0_0, h0_1, h0_2, ()), ()))) := by
  refine Eq.trans (b := (cond (q_sl1Below (8 : Int) h0_0 h0_1 h0_2) (cond ((k2_sl3Draw h0_0 h0_1 h0_2).1 == 0) (some (e_sl3Draw (((k2_sl3Draw h0_0 h0_1 h0_2).2.1), ((k2_sl3Draw h0_0 h0_1 h0_2).2.2.1), ((k2_sl3Draw h0_0 h0_1 h0_2).2.2.2.1), ((k2_sl3Draw h0_0 h0_1 h0_2).2.2.2.2)))) none) none)) (by kernel_rfl) ?_
  exact (cndT (andL hp) (fun _h => (fun hp => (cndT hp (fun _h => rfl))) (andR hp)))
theorem run_sl3Draw : ∀ d : SM_sl3Draw.den, pre_sl3Draw d = true → runM Try.prog tt S8 QF8 (fun b => match b with | 0 => say_sl3Draw_0 | _ => fun _ => none) Try.f124 (shsMk SM_sl3Draw.sl (d : SM_sl3Draw.den).1) (ohsMk SM_sl3Draw.hp (d : SM_sl3Draw.den).2) = some (g_sl3Draw d) := fun d hp => runA_sl3Draw d.2.1.1 d.2.1.2.1 d.2.1.2.2.1 hp
theorem c_sl3Draw : MContract Try.prog 124 (win winIds (msum SM_sl3Draw pre_sl3Draw g_sl3Draw)) := (MContract.of_data G8 (fn := Try.f124) (by kernel_rfl) (L := fun b => match b with | 0 => say_sl3Draw_0 | _ => fun _ => none) (by rw [show loopsIn 0 (bodyOf Try.f124) = [(0, body_sl3Draw_0)] by kernel_rfl]; intro p hp; simp only [List.mem_singleton] at hp; subst hp; exact lw_sl3Draw_0) SM_sl3Draw pre_sl3Draw g_sl3Draw run_sl3Draw).win winIds
noncomputable def S9 : Tab := Tab.add S8 124 (win winIds (msum SM_sl3Draw pre_sl3Draw g_sl3Draw))
noncomputable def QF9 : FuncId → Bool := QF8
theorem G9 : Good Try.prog tt S9 QF9 := G8.addM c_sl3Draw (win_local _) ⟨Try.f124, by kernel_rfl, by kernel_rfl, by kernel_rfl⟩ (by kernel_rfl)

/-! 117 loop.example/g00244/spec.l1Int -/
noncomputable abbrev SM_sl1Int : SS := ⟨[.ptr 0 0 1 0, .all 1 1], [.box [.t false (.sl (.int .u8)), .t true (.int .i64), .t true (.int .i64)], .rows 3 true (.int .i64)]⟩
noncomputable def sl1Int (h0_0 : List Int) (h0_1 : Int) (h0_2 : Int) (h1 : List Int) : Int × (List Int) × Int × Int × List Int := (h1.getD (((sl1Below ((h1.length : Nat) : Int) h0_0 h0_1 h0_2).1).toNat) (0 : Int), ((sl1Below ((h1.length : Nat) : Int) h0_0 h0_1 h0_2).2.1), ((sl1Below ((h1.length : Nat) : Int) h0_0 h0_1 h0_2).2.2.1), ((sl1Below ((h1.length : Nat) : Int) h0_0 h0_1 h0_2).2.2.2), h1)
noncomputable abbrev e_sl1Int (r : Int × (List Int) × Int × Int × List Int) : AV × List AObj × List Nat := ((.t true (.int .i64) r.1), [(.box [(.t false (.sl (.int .u8)) r.2.1), (.t true (.int .i64) r.2.2.1), (.t true (.int .i64) r.2.2.2.1)]), (.rows 3 true (.int .i64) r.2.2.2.2)], [])
noncomputable abbrev g_sl1Int : SM_sl1Int.den → AV × List AObj × List Nat := fun d => e_sl1Int (sl1Int d.2.1.1 d.2.1.2.1 d.2.1.2.2.1 d.2.2.1)
noncomputable def q_sl1Int (h0_0 : List Int) (h0_1 : Int) (h0_2 : Int) (h1 : List Int) : Bool := (q_sl1Below ((h1.length : Nat) : Int) h0_0 h0_1 h0_2) && (decide (0 ≤ ((sl1Below ((h1.length : Nat) : Int) h0_0 h0_1 h0_2).1) ∧ ((sl1Below ((h1.length : Nat) : Int) h0_0 h0_1 h0_2).1) < ((h1.length : Nat) : Int)))
noncomputable abbrev pre_sl1Int : SM_sl1Int.den → Bool := fun d => q_sl1Int d.2.1.1 d.2.1.2.1 d.2.1.2.2.1 d.2.2.1
theorem runA_sl1Int (h0_0 : List Int) (h0_1 : Int) (h0_2 : Int) (h1 : List Int) (hp : ((q_sl1Below ((h1.length : Nat) : Int) h0_0 h0_1 h0_2) && (decide (0 ≤ ((sl1Below ((h1.length : Nat) : Int) h0_0 h0_1 h0_2).1) ∧ ((sl1Below ((h1.length : Nat) : Int) h0_0 h0_1 h0_2).1) < ((h1.length : Nat) : Int)))) = true) : runM Try.prog tt S9 QF9 (fun _ _ => none) Try.f117 (shsMk SM_sl1Int.sl ((((), (), ()), ((h0_0, h0_1, h0_2, ()), h1, ())) : SM_sl1Int.den).1) (ohsMk SM_sl1Int.hp ((((), (), ()), ((h0_0, h0_1, h0_2, ()), h1, ())) : SM_sl1Int.den).2) = some (g_sl1Int (((), (), ()), ((h0_0, h0_1, h0_2, ()), h1, ()))) := by
  refine Eq.trans (b := (cond (q_sl1Below ((h1.length : Nat) : Int) h0_0 h0_1 h0_2) (cond (decide (0 ≤ ((sl1Below ((h1.length : Nat) : Int) h0_0 h0_1 h0_2).1) ∧ ((sl1Below ((h1.length : Nat) : Int) h0_0 h0_1 h0_2).1) < ((h1.length : Nat) : Int))) (some (e_sl1Int (h1.getD (((sl1Below ((h1.length : Nat) : Int) h0_0 h0_1 h0_2).1).toNat) (0 : Int), ((sl1Below ((h1.length : Nat) : Int) h0_0 h0_1 h0_2).2.1), ((sl1Below ((h1.length : Nat) : Int) h0_0 h0_1 h0_2).2.2.1), ((sl1Below ((h1.length : Nat) : Int) h0_0 h0_1 h0_2).2.2.2), h1))) none) none)) (by kernel_rfl) ?_
  exact (cndT (andL hp) (fun _h => (fun hp => (cndT hp (fun _h => rfl))) (andR hp)))
theorem run_sl1Int : ∀ d : SM_sl1Int.den, pre_sl1Int d = true → runM Try.prog tt S9 QF9 (fun _ _ => none) Try.f117 (shsMk SM_sl1Int.sl (d : SM_sl1Int.den).1) (ohsMk SM_sl1Int.hp (d : SM_sl1Int.den).2) = some (g_sl1Int d) := fun d hp => runA_sl1Int d.2.1.1 d.2.1.2.1 d.2.1.2.2.1 d.2.2.1 hp
theorem c_sl1Int : MContract Try.prog 117 (win winIds (msum SM_sl1Int pre_sl1Int g_sl1Int)) := (MContract.of_data G9 (fn := Try.f117) (by kernel_rfl) (L := fun _ _ => none) (by rw [show loopsIn 0 (bodyOf Try.f117) = [] by kernel_rfl]; simp) SM_sl1Int pre_sl1Int g_sl1Int run_sl1Int).win winIds
noncomputable def S10 : Tab := Tab.add S9 117 (win winIds (msum SM_sl1Int pre_sl1Int g_sl1Int))
noncomputable def QF10 : FuncId → Bool := QF9
theorem G10 : Good Try.prog tt S10 QF10 := G9.addM c_sl1Int (win_local _) ⟨Try.f117, by kernel_rfl, by kernel_rfl, by kernel_rfl⟩ (by kernel_rfl)

/-! 145 loop.example/g00244/spec.l7Op1 -/
noncomputable abbrev SM_sl7Op1 : SS := ⟨[.ptr 0 0 1 0], [.box [.t false (.sl (.int .u8)), .t true (.int .i64), .t true (.int .i64)]]⟩
noncomputable def k1_sl7Op1 (h0_0 : List Int) (h0_1 : Int) (h0_2 : Int) := sl3Key ((sl1Int h0_0 h0_1 h0_2 [(1 : Int), (1 : Int), (1 : Int), (2 : Int), (3 : Int)]).2.1) ((sl1Int h0_0 h0_1 h0_2 [(1 : Int), (1 : Int), (1 : Int), (2 : Int), (3 : Int)]).2.2.1) ((sl1Int h0_0 h0_1 h0_2 [(1 : Int), (1 : Int), (1 : Int), (2 : Int), (3 : Int)]).2.2.2.1)
noncomputable def k2_sl7Op1 (h0_0 : List Int) (h0_1 : Int) (h0_2 : Int) := sl1Str ((k1_sl7Op1 h0_0 h0_1 h0_2).2.1) ((k1_sl7Op1 h0_0 h0_1 h0_2).2.2.1) ((k1_sl7Op1 h0_0 h0_1 h0_2).2.2.2) ([(⟨#[49]⟩ : ByteArray), (⟨#[50]⟩ : ByteArray), (⟨#[120]⟩ : ByteArray), (⟨#[]⟩ : ByteArray), (⟨#[49]⟩ : ByteArray)])
noncomputable def sl7Op1 (h0_0 : List Int) (h0_1 : Int) (h0_2 : Int) : Int × ByteArray × ByteArray × (List Int) × Int × Int × Int × ByteArray × ByteArray := (cond (((sl1Int h0_0 h0_1 h0_2 [(1 : Int), (1 : Int), (1 : Int), (2 : Int), (3 : Int)]).1) != (2 : Int)) (((sl1Int h0_0 h0_1 h0_2 [(1 : Int), (1 : Int), (1 : Int), (2 : Int), (3 : Int)]).1), ((k1_sl7Op1 h0_0 h0_1 h0_2).1), ((k2_sl7Op1 h0_0 h0_1 h0_2).1), ((k2_sl7Op1 h0_0 h0_1 h0_2).2.1), ((k2_sl7Op1 h0_0 h0_1 h0_2).2.2.1), ((k2_sl7Op1 h0_0 h0_1 h0_2).2.2.2.1), ((sl1Int h0_0 h0_1 h0_2 [(1 : Int), (1 : Int), (1 : Int), (2 : Int), (3 : Int)]).1), ((k1_sl7Op1 h0_0 h0_1 h0_2).1), ((k2_sl7Op1 h0_0 h0_1 h0_2).1)) (((sl1Int h0_0 h0_1 h0_2 [(1 : Int), (1 : Int), (1 : Int), (2 : Int), (3 : Int)]).1), ((k1_sl7Op1 h0_0 h0_1 h0_2).1), (⟨#[]⟩ : ByteArray), ((k1_sl7Op1 h0_0 h0_1 h0_2).2.1), ((k1_sl7Op1 h0_0 h0_1 h0_2).2.2.1), ((k1_sl7Op1 h0_0 h0_1 h0_2).2.2.2), ((sl1Int h0_0 h0_1 h0_2 [(1 : Int), (1 : Int), (1 : Int), (2 : Int), (3 : Int)]).1), ((k1_sl7Op1 h0_0 h0_1 h0_2).1), (⟨#[]⟩ : ByteArray)))
noncomputable abbrev e_sl7Op1 (r : Int × ByteArray × ByteArray × (List Int) × Int × Int × Int × ByteArray × ByteArray) : AV × List AObj × List Nat := ((.agg [(.t true (.int .i64) r.1), (.t true .str r.2.1), (.t true .str r.2.2.1)]), [(.box [(.t false (.sl (.int .u8)) r.2.2.2.1), (.t true (.int .i64) r.2.2.2.2.1), (.t true (.int .i64) r.2.2.2.2.2.1)]), (.box [(.t true (.int .i64) r.2.2.2.2.2.2.1), (.t true .str r.2.2.2.2.2.2.2.1), (.t true .str r.2.2.2.2.2.2.2.2)])], [])
noncomputable abbrev g_sl7Op1 : SM_sl7Op1.den → AV × List AObj × List Nat := fun d => e_sl7Op1 (sl7Op1 d.2.1.1 d.2.1.2.1 d.2.1.2.2.1)
noncomputable def q_sl7Op1 (h0_0 : List Int) (h0_1 : Int) (h0_2 : Int) : Bool := (q_sl1Int h0_0 h0_1 h0_2 [(1 : Int), (1 : Int), (1 : Int), (2 : Int), (3 : Int)]) && ((q_sl3Key ((sl1Int h0_0 h0_1 h0_2 [(1 : Int), (1 : Int), (1 : Int), (2 : Int), (3 : Int)]).2.1) ((sl1Int h0_0 h0_1 h0_2 [(1 : Int), (1 : Int), (1 : Int), (2 : Int), (3 : Int)]).2.2.1) ((sl1Int h0_0 h0_1 h0_2 [(1 : Int), (1 : Int), (1 : Int), (2 : Int), (3 : Int)]).2.2.2.1)) && (cond (((sl1Int h0_0 h0_1 h0_2 [(1 : Int), (1 : Int), (1 : Int), (2 : Int), (3 : Int)]).1) != (2 : Int)) (q_sl1Str ((k1_sl7Op1 h0_0 h0_1 h0_2).2.1) ((k1_sl7Op1 h0_0 h0_1 h0_2).2.2.1) ((k1_sl7Op1 h0_0 h0_1 h0_2).2.2.2) ([(⟨#[49]⟩ : ByteArray), (⟨#[50]⟩ : ByteArray), (⟨#[120]⟩ : ByteArray), (⟨#[]⟩ : ByteArray), (⟨#[49]⟩ : ByteArray)])) true))
noncomputable abbrev pre_sl7Op1 : SM_sl7Op1.den → Bool := fun d => q_sl7Op1 d.2.1.1 d.2.1.2.1 d.2.1.2.2.1
theorem runA_sl7Op1 (h0_0 : List Int) (h0_1 : Int) (h0_2 : Int) (hp : ((q_sl1Int h0_0 h0_1 h0_2 [(1 : Int), (1 : Int), (1 : Int), (2 : Int), (3 : Int)]) && ((q_sl3Key ((sl1Int h0_0 h0_1 h0_2 [(1 : Int), (1 : Int), (1 : Int), (2 : Int), (3 : Int)]).2.1) ((sl1Int h0_0 h0_1 h0_2 [(1 : Int), (1 : Int), (1 : Int), (2 : Int), (3 : Int)]).2.2.1) ((sl1Int h0_0 h0_1 h0_2 [(1 : Int), (1 : Int), (1 : Int), (2 : Int), (3 : Int)]).2.2.2.1)) && (cond (((sl1Int h0_0 h0_1 h0_2 [(1 : Int), (1 : Int), (1 : Int), (2 : Int), (3 : Int)]).1) != (2 : Int)) (q_sl1Str ((k1_sl7Op1 h0_0 h0_1 h0_2).2.1) ((k1_sl7Op1 h0_0 h0_1 h0_2).2.2.1) ((k1_sl7Op1 h0_0 h0_1 h0_2).2.2.2) ([(⟨#[49]⟩ : ByteArray), (⟨#[50]⟩ : ByteArray), (⟨#[120]⟩ : ByteArray), (⟨#[]⟩ : ByteArray), (⟨#[49]⟩ : ByteArray)])) true))) = true) : runM Try.prog tt S10 QF10 (fun _ _ => none) Try.f145 (shsMk SM_sl7Op1.sl ((((), ()), ((h0_0, h0_1, h0_2, ()), ())) : SM_sl7Op1.den).1) (ohsMk SM_sl7Op1.hp ((((), ()), ((h0_0, h0_1, h0_2, ()), ())) : SM_sl7Op1.den).2) = some (g_sl7Op1 (((), ()), ((h0_0, h0_1, h0_2, ()), ()))) := by
  refine Eq.trans (b := (cond (q_sl1Int h0_0 h0_1 h0_2 [(1 : Int), (1 : Int), (1 : Int), (2 : Int), (3 : Int)]) (cond (q_sl3Key ((sl1Int h0_0 h0_1 h0_2 [(1 : Int), (1 : Int), (1 : Int), (2 : Int), (3 : Int)]).2.1) ((sl1Int h0_0 h0_1 h0_2 [(1 : Int), (1 : Int), (1 : Int), (2 : Int), (3 : Int)]).2.2.1) ((sl1Int h0_0 h0_1 h0_2 [(1 : Int), (1 : Int), (1 : Int), (2 : Int), (3 : Int)]).2.2.2.1)) (cond (((sl1Int h0_0 h0_1 h0_2 [(1 : Int), (1 : Int), (1 : Int), (2 : Int), (3 : Int)]).1) != (2 : Int)) (cond (q_sl1Str ((k1_sl7Op1 h0_0 h0_1 h0_2).2.1) ((k1_sl7Op1 h0_0 h0_1 h0_2).2.2.1) ((k1_sl7Op1 h0_0 h0_1 h0_2).2.2.2) ([(⟨#[49]⟩ : ByteArray), (⟨#[50]⟩ : ByteArray), (⟨#[120]⟩ : ByteArray), (⟨#[]⟩ : ByteArray), (⟨#[49]⟩ : ByteArray)])) (some (e_sl7Op1 (((sl1Int h0_0 h0_1 h0_2 [(1 : Int), (1 : Int), (1 : Int), (2 : Int), (3 : Int)]).1), ((k1_sl7Op1 h0_0 h0_1 h0_2).1), ((k2_sl7Op1 h0_0 h0_1 h0_2).1), ((k2_sl7Op1 h0_0 h0_1 h0_2).2.1), ((k2_sl7Op1 h0_0 h0_1 h0_2).2.2.1), ((k2_sl7Op1 h0_0 h0_1 h0_2).2.2.2.1), ((sl1Int h0_0 h0_1 h0_2 [(1 : Int), (1 : Int), (1 : Int), (2 : Int), (3 : Int)]).1), ((k1_sl7Op1 h0_0 h0_1 h0_2).1), ((k2_sl7Op1 h0_0 h0_1 h0_2).1)))) none) (some (e_sl7Op1 (((sl1Int h0_0 h0_1 h0_2 [(1 : Int), (1 : Int), (1 : Int), (2 : Int), (3 : Int)]).1), ((k1_sl7Op1 h0_0 h0_1 h0_2).1), (⟨#[]⟩ : ByteArray), ((k1_sl7Op1 h0_0 h0_1 h0_2).2.1), ((k1_sl7Op1 h0_0 h0_1 h0_2).2.2.1), ((k1_sl7Op1 h0_0 h0_1 h0_2).2.2.2), ((sl1Int h0_0 h0_1 h0_2 [(1 : Int), (1 : Int), (1 : Int), (2 : Int), (3 : Int)]).1), ((k1_sl7Op1 h0_0 h0_1 h0_2).1), (⟨#[]⟩ : ByteArray))))) none) none)) (by kernel_rfl) ?_
  exact (cndT (andL hp) (fun _h => (fun hp => (cndT (andL hp) (fun _h => (fun hp => (cndQ (F := fun r => some (e_sl7Op1 r)) hp (fun hp => (cndT hp (fun _h => rfl))) (fun hp => rfl))) (andR hp)))) (andR hp)))
theorem run_sl7Op1 : ∀ d : SM_sl7Op1.den, pre_sl7Op1 d = true → runM Try.prog tt S10 QF10 (fun _ _ => none) Try.f145 (shsMk SM_sl7Op1.sl (d : SM_sl7Op1.den).1) (ohsMk SM_sl7Op1.hp (d : SM_sl7Op1.den).2) = some (g_sl7Op1 d) := fun d hp => runA_sl7Op1 d.2.1.1 d.2.1.2.1 d.2.1.2.2.1 hp
theorem c_sl7Op1 : MContract Try.prog 145 (win winIds (msum SM_sl7Op1 pre_sl7Op1 g_sl7Op1)) := (MContract.of_data G10 (fn := Try.f145) (by kernel_rfl) (L := fun _ _ => none) (by rw [show loopsIn 0 (bodyOf Try.f145) = [] by kernel_rfl]; simp) SM_sl7Op1 pre_sl7Op1 g_sl7Op1 run_sl7Op1).win winIds
noncomputable def S11 : Tab := Tab.add S10 145 (win winIds (msum SM_sl7Op1 pre_sl7Op1 g_sl7Op1))
noncomputable def QF11 : FuncId → Bool := QF10
theorem G11 : Good Try.prog tt S11 QF11 := G10.addM c_sl7Op1 (win_local _) ⟨Try.f145, by kernel_rfl, by kernel_rfl, by kernel_rfl⟩ (by kernel_rfl)

/-! 146 loop.example/g00244/spec.l7One -/
noncomputable abbrev P_sl7One : List PSh := [.t (.sl (.pair (.int .i64) (.pair .str .str))), .agg [(.int .i64), .str, .str]]
noncomputable abbrev S_sl7One_0 : SS := ⟨[.t false (.sl (.pair (.int .i64) (.pair .str .str))), .junk, .junk, .ptr 0 0 1 0, .junk, .all 1 3, .t true .bool, .t true (.int .i64), .junk, .junk, .junk, .junk, .junk, .junk, .junk, .junk, .junk, .junk, .junk, .junk, .junk, .junk, .junk, .junk, .junk, .junk, .junk, .junk, .junk, .junk, .junk, .junk, .junk, .junk, .junk, .junk, .junk, .junk, .junk, .junk, .junk, .junk, .junk, .junk, .junk, .junk, .junk, .junk, .junk, .junk, .junk, .junk, .junk], [.box [.t true (.int .i64), .t true .str, .t true .str], .rows 85 true (.pair (.int .i64) (.pair .str .str))]⟩
noncomputable abbrev E_sl7One_0_0 : SS := ⟨[.junk, .junk, .junk, .ptr 0 0 1 0, .junk, .all 1 3, .t true .bool, .junk, .junk, .junk, .junk, .junk, .junk, .junk, .junk, .junk, .junk, .junk, .junk, .junk, .junk, .junk, .junk, .junk, .junk, .junk, .junk, .junk, .junk, .junk, .junk, .junk, .junk, .junk, .junk, .junk, .junk, .junk, .junk, .junk, .junk, .junk, .junk, .junk, .junk, .junk, .junk, .junk, .junk, .junk, .junk, .junk, .junk], [.box [.t true (.int .i64), .t true .str, .t true .str], .rows 85 true (.pair (.int .i64) (.pair .str .str))]⟩
noncomputable def st_sl7One_0 (x0 : List (Int × ByteArray × ByteArray)) (x6 : Bool) (x7 : Int) (h0_0 : Int) (h0_1 : ByteArray) (h0_2 : ByteArray) (h1 : List (Int × ByteArray × ByteArray)) : RT S_sl7One_0.den := (.br (decide (x7 < ((x0.length : Nat) : Int))) (.br (!x6) (.br (decide (0 ≤ x7 ∧ x7 < ((x0.length : Nat) : Int))) (.br (!(Op.bytesLess (((x0.getD x7.toNat ((0 : Int), ((⟨#[]⟩ : ByteArray), (⟨#[]⟩ : ByteArray)))).2).1).toList h0_1.toList)) (.br (decide ((h1.length + [(h0_0, (h0_1, h0_2))].length) * 40 ≤ MAXB)) (.br (decide (0 ≤ x7 ∧ x7 < ((x0.length : Nat) : Int))) (.br (!((((x0.getD x7.toNat ((0 : Int), ((⟨#[]⟩ : ByteArray), (⟨#[]⟩ : ByteArray)))).2).1).toList == h0_1.toList)) (.br (decide (0 ≤ x7 ∧ x7 < ((x0.length : Nat) : Int))) (.br (decide (((h1 ++ [(h0_0, (h0_1, h0_2))]).length + ([((x0.getD x7.toNat ((0 : Int), ((⟨#[]⟩ : ByteArray), (⟨#[]⟩ : ByteArray)))).1, (((x0.getD x7.toNat ((0 : Int), ((⟨#[]⟩ : ByteArray), (⟨#[]⟩ : ByteArray)))).2).1, ((x0.getD x7.toNat ((0 : Int), ((⟨#[]⟩ : ByteArray), (⟨#[]⟩ : ByteArray)))).2).2))]).length) * 40 ≤ MAXB)) (.next ((x0, (), (), (), (), (), true, IntKind.wrap .i64 (x7 + (1 : Int)), (), (), (), (), (), (), (), (), (), (), (), (), (), (), (), (), (), (), (), (), (), (), (), (), (), (), (), (), (), (), (), (), (), (), (), (), (), (), (), (), (), (), (), (), (), ()), ((h0_0, h0_1, h0_2, ()), (h1 ++ [(h0_0, (h0_1, h0_2))]) ++ ([((x0.getD x7.toNat ((0 : Int), ((⟨#[]⟩ : ByteArray), (⟨#[]⟩ : ByteArray)))).1, (((x0.getD x7.toNat ((0 : Int), ((⟨#[]⟩ : ByteArray), (⟨#[]⟩ : ByteArray)))).2).1, ((x0.getD x7.toNat ((0 : Int), ((⟨#[]⟩ : ByteArray), (⟨#[]⟩ : ByteArray)))).2).2))]), ()))) .fail) .fail) (.next ((x0, (), (), (), (), (), true, IntKind.wrap .i64 (x7 + (1 : Int)), (), (), (), (), (), (), (), (), (), (), (), (), (), (), (), (), (), (), (), (), (), (), (), (), (), (), (), (), (), (), (), (), (), (), (), (), (), (), (), (), (), (), (), (), (), ()), ((h0_0, h0_1, h0_2, ()), h1 ++ [(h0_0, (h0_1, h0_2))], ())))) .fail) .fail) (.br (decide (0 ≤ x7 ∧ x7 < ((x0.length : Nat) : Int))) (.br (!((((x0.getD x7.toNat ((0 : Int), ((⟨#[]⟩ : ByteArray), (⟨#[]⟩ : ByteArray)))).2).1).toList == h0_1.toList)) (.br (decide (0 ≤ x7 ∧ x7 < ((x0.length : Nat) : Int))) (.br (decide ((h1.length + ([((x0.getD x7.toNat ((0 : Int), ((⟨#[]⟩ : ByteArray), (⟨#[]⟩ : ByteArray)))).1, (((x0.getD x7.toNat ((0 : Int), ((⟨#[]⟩ : ByteArray), (⟨#[]⟩ : ByteArray)))).2).1, ((x0.getD x7.toNat ((0 : Int), ((⟨#[]⟩ : ByteArray), (⟨#[]⟩ : ByteArray)))).2).2))]).length) * 40 ≤ MAXB)) (.next ((x0, (), (), (), (), (), x6, IntKind.wrap .i64 (x7 + (1 : Int)), (), (), (), (), (), (), (), (), (), (), (), (), (), (), (), (), (), (), (), (), (), (), (), (), (), (), (), (), (), (), (), (), (), (), (), (), (), (), (), (), (), (), (), (), (), ()), ((h0_0, h0_1, h0_2, ()), h1 ++ ([((x0.getD x7.toNat ((0 : Int), ((⟨#[]⟩ : ByteArray), (⟨#[]⟩ : ByteArray)))).1, (((x0.getD x7.toNat ((0 : Int), ((⟨#[]⟩ : ByteArray), (⟨#[]⟩ : ByteArray)))).2).1, ((x0.getD x7.toNat ((0 : Int), ((⟨#[]⟩ : ByteArray), (⟨#[]⟩ : ByteArray)))).2).2))]), ()))) .fail) .fail) (.next ((x0, (), (), (), (), (), x6, IntKind.wrap .i64 (x7 + (1 : Int)), (), (), (), (), (), (), (), (), (), (), (), (), (), (), (), (), (), (), (), (), (), (), (), (), (), (), (), (), (), (), (), (), (), (), (), (), (), (), (), (), (), (), (), (), (), ()), ((h0_0, h0_1, h0_2, ()), h1, ())))) .fail)) .fail) (.br (decide (0 ≤ x7 ∧ x7 < ((x0.length : Nat) : Int))) (.br (!((((x0.getD x7.toNat ((0 : Int), ((⟨#[]⟩ : ByteArray), (⟨#[]⟩ : ByteArray)))).2).1).toList == h0_1.toList)) (.br (decide (0 ≤ x7 ∧ x7 < ((x0.length : Nat) : Int))) (.br (decide ((h1.length + ([((x0.getD x7.toNat ((0 : Int), ((⟨#[]⟩ : ByteArray), (⟨#[]⟩ : ByteArray)))).1, (((x0.getD x7.toNat ((0 : Int), ((⟨#[]⟩ : ByteArray), (⟨#[]⟩ : ByteArray)))).2).1, ((x0.getD x7.toNat ((0 : Int), ((⟨#[]⟩ : ByteArray), (⟨#[]⟩ : ByteArray)))).2).2))]).length) * 40 ≤ MAXB)) (.next ((x0, (), (), (), (), (), x6, IntKind.wrap .i64 (x7 + (1 : Int)), (), (), (), (), (), (), (), (), (), (), (), (), (), (), (), (), (), (), (), (), (), (), (), (), (), (), (), (), (), (), (), (), (), (), (), (), (), (), (), (), (), (), (), (), (), ()), ((h0_0, h0_1, h0_2, ()), h1 ++ ([((x0.getD x7.toNat ((0 : Int), ((⟨#[]⟩ : ByteArray), (⟨#[]⟩ : ByteArray)))).1, (((x0.getD x7.toNat ((0 : Int), ((⟨#[]⟩ : ByteArray), (⟨#[]⟩ : ByteArray)))).2).1, ((x0.getD x7.toNat ((0 : Int), ((⟨#[]⟩ : ByteArray), (⟨#[]⟩ : ByteArray)))).2).2))]), ()))) .fail) .fail) (.next ((x0, (), (), (), (), (), x6, IntKind.wrap .i64 (x7 + (1 : Int)), (), (), (), (), (), (), (), (), (), (), (), (), (), (), (), (), (), (), (), (), (), (), (), (), (), (), (), (), (), (), (), (), (), (), (), (), (), (), (), (), (), (), (), (), (), ()), ((h0_0, h0_1, h0_2, ()), h1, ())))) .fail)) (.done (.exit 0) E_sl7One_0_0 (((), (), (), (), (), (), x6, (), (), (), (), (), (), (), (), (), (), (), (), (), (), (), (), (), (), (), (), (), (), (), (), (), (), (), (), (), (), (), (), (), (), (), (), (), (), (), (), (), (), (), (), (), (), ()), ((h0_0, h0_1, h0_2, ()), h1, ()))))
noncomputable abbrev V_sl7One_0 := (List (Int × ByteArray × ByteArray)) × (Bool) × (Int) × (List (Int × ByteArray × ByteArray))
noncomputable abbrev A_sl7One_0 := Nat × (Bool) × (List (Int × ByteArray × ByteArray))
noncomputable def fl_sl7One_0 : A_sl7One_0 := (99, (false : Bool), ([] : List (Int × ByteArray × ByteArray)))
noncomputable def ss_sl7One_0 (x0 : List (Int × ByteArray × ByteArray)) (x6 : Bool) (x7 : Int) (h0_0 : Int) (h0_1 : ByteArray) (h0_2 : ByteArray) (h1 : List (Int × ByteArray × ByteArray)) : V_sl7One_0 ⊕ A_sl7One_0 := (cond (decide (x7 < ((x0.length : Nat) : Int))) (cond (!x6) (cond (decide (0 ≤ x7 ∧ x7 < ((x0.length : Nat) : Int))) (cond (!(Op.bytesLess (((x0.getD x7.toNat ((0 : Int), ((⟨#[]⟩ : ByteArray), (⟨#[]⟩ : ByteArray)))).2).1).toList h0_1.toList)) (cond (decide ((h1.length + [(h0_0, (h0_1, h0_2))].length) * 40 ≤ MAXB)) (cond (decide (0 ≤ x7 ∧ x7 < ((x0.length : Nat) : Int))) (cond (!((((x0.getD x7.toNat ((0 : Int), ((⟨#[]⟩ : ByteArray), (⟨#[]⟩ : ByteArray)))).2).1).toList == h0_1.toList)) (cond (decide (0 ≤ x7 ∧ x7 < ((x0.length : Nat) : Int))) (cond (decide (((h1 ++ [(h0_0, (h0_1, h0_2))]).length + ([((x0.getD x7.toNat ((0 : Int), ((⟨#[]⟩ : ByteArray), (⟨#[]⟩ : ByteArray)))).1, (((x0.getD x7.toNat ((0 : Int), ((⟨#[]⟩ : ByteArray), (⟨#[]⟩ : ByteArray)))).2).1, ((x0.getD x7.toNat ((0 : Int), ((⟨#[]⟩ : ByteArray), (⟨#[]⟩ : ByteArray)))).2).2))]).length) * 40 ≤ MAXB)) (.inl (x0, true, IntKind.wrap .i64 (x7 + (1 : Int)), (h1 ++ [(h0_0, (h0_1, h0_2))]) ++ ([((x0.getD x7.toNat ((0 : Int), ((⟨#[]⟩ : ByteArray), (⟨#[]⟩ : ByteArray)))).1, (((x0.getD x7.toNat ((0 : Int), ((⟨#[]⟩ : ByteArray), (⟨#[]⟩ : ByteArray)))).2).1, ((x0.getD x7.toNat ((0 : Int), ((⟨#[]⟩ : ByteArray), (⟨#[]⟩ : ByteArray)))).2).2))]))) (.inr fl_sl7One_0)) (.inr fl_sl7One_0)) (.inl (x0, true, IntKind.wrap .i64 (x7 + (1 : Int)), h1 ++ [(h0_0, (h0_1, h0_2))]))) (.inr fl_sl7One_0)) (.inr fl_sl7One_0)) (cond (decide (0 ≤ x7 ∧ x7 < ((x0.length : Nat) : Int))) (cond (!((((x0.getD x7.toNat ((0 : Int), ((⟨#[]⟩ : ByteArray), (⟨#[]⟩ : ByteArray)))).2).1).toList == h0_1.toList)) (cond (decide (0 ≤ x7 ∧ x7 < ((x0.length : Nat) : Int))) (cond (decide ((h1.length + ([((x0.getD x7.toNat ((0 : Int), ((⟨#[]⟩ : ByteArray), (⟨#[]⟩ : ByteArray)))).1, (((x0.getD x7.toNat ((0 : Int), ((⟨#[]⟩ : ByteArray), (⟨#[]⟩ : ByteArray)))).2).1, ((x0.getD x7.toNat ((0 : Int), ((⟨#[]⟩ : ByteArray), (⟨#[]⟩ : ByteArray)))).2).2))]).length) * 40 ≤ MAXB)) (.inl (x0, x6, IntKind.wrap .i64 (x7 + (1 : Int)), h1 ++ ([((x0.getD x7.toNat ((0 : Int), ((⟨#[]⟩ : ByteArray), (⟨#[]⟩ : ByteArray)))).1, (((x0.getD x7.toNat ((0 : Int), ((⟨#[]⟩ : ByteArray), (⟨#[]⟩ : ByteArray)))).2).1, ((x0.getD x7.toNat ((0 : Int), ((⟨#[]⟩ : ByteArray), (⟨#[]⟩ : ByteArray)))).2).2))]))) (.inr fl_sl7One_0)) (.inr fl_sl7One_0)) (.inl (x0, x6, IntKind.wrap .i64 (x7 + (1 : Int)), h1))) (.inr fl_sl7One_0))) (.inr fl_sl7One_0)) (cond (decide (0 ≤ x7 ∧ x7 < ((x0.length : Nat) : Int))) (cond (!((((x0.getD x7.toNat ((0 : Int), ((⟨#[]⟩ : ByteArray), (⟨#[]⟩ : ByteArray)))).2).1).toList == h0_1.toList)) (cond (decide (0 ≤ x7 ∧ x7 < ((x0.length : Nat) : Int))) (cond (decide ((h1.length + ([((x0.getD x7.toNat ((0 : Int), ((⟨#[]⟩ : ByteArray), (⟨#[]⟩ : ByteArray)))).1, (((x0.getD x7.toNat ((0 : Int), ((⟨#[]⟩ : ByteArray), (⟨#[]⟩ : ByteArray)))).2).1, ((x0.getD x7.toNat ((0 : Int), ((⟨#[]⟩ : ByteArray), (⟨#[]⟩ : ByteArray)))).2).2))]).length) * 40 ≤ MAXB)) (.inl (x0, x6, IntKind.wrap .i64 (x7 + (1 : Int)), h1 ++ ([((x0.getD x7.toNat ((0 : Int), ((⟨#[]⟩ : ByteArray), (⟨#[]⟩ : ByteArray)))).1, (((x0.getD x7.toNat ((0 : Int), ((⟨#[]⟩ : ByteArray), (⟨#[]⟩ : ByteArray)))).2).1, ((x0.getD x7.toNat ((0 : Int), ((⟨#[]⟩ : ByteArray), (⟨#[]⟩ : ByteArray)))).2).2))]))) (.inr fl_sl7One_0)) (.inr fl_sl7One_0)) (.inl (x0, x6, IntKind.wrap .i64 (x7 + (1 : Int)), h1))) (.inr fl_sl7One_0))) (.inr (0, x6, h1)))
noncomputable def it_sl7One_0 (x0 : List (Int × ByteArray × ByteArray)) (x6 : Bool) (x7 : Int) (h0_0 : Int) (h0_1 : ByteArray) (h0_2 : ByteArray) (h1 : List (Int × ByteArray × ByteArray)) : A_sl7One_0 := itX (fun v : V_sl7One_0 => ss_sl7One_0 v.1 v.2.1 v.2.2.1 h0_0 h0_1 h0_2 v.2.2.2) fl_sl7One_0 (x0, x6, x7, h1)
noncomputable def ct_sl7One_0 (h0_0 : Int) (h0_1 : ByteArray) (h0_2 : ByteArray) (a : A_sl7One_0) : CT := (.br (a.1 == 0) (.done (.exit 0) E_sl7One_0_0 (((), (), (), (), (), (), a.2.1, (), (), (), (), (), (), (), (), (), (), (), (), (), (), (), (), (), (), (), (), (), (), (), (), (), (), (), (), (), (), (), (), (), (), (), (), (), (), (), (), (), (), (), (), (), (), ()), ((h0_0, h0_1, h0_2, ()), a.2.2, ()))) .fail)
noncomputable def T_sl7One_0 (x0 : List (Int × ByteArray × ByteArray)) (x6 : Bool) (x7 : Int) (h0_0 : Int) (h0_1 : ByteArray) (h0_2 : ByteArray) (h1 : List (Int × ByteArray × ByteArray)) : CT := (ct_sl7One_0 h0_0 h0_1 h0_2) (it_sl7One_0 x0 x6 x7 h0_0 h0_1 h0_2 h1)
noncomputable abbrev sp_sl7One_0 : S_sl7One_0.den → RT S_sl7One_0.den := fun d => st_sl7One_0 d.1.1 d.1.2.2.2.2.2.2.1 d.1.2.2.2.2.2.2.2.1 d.2.1.1 d.2.1.2.1 d.2.1.2.2.1 d.2.2.1
noncomputable abbrev pk_sl7One_0 (x0 : List (Int × ByteArray × ByteArray)) (x6 : Bool) (x7 : Int) (h0_0 : Int) (h0_1 : ByteArray) (h0_2 : ByteArray) (h1 : List (Int × ByteArray × ByteArray)) : S_sl7One_0.den := ((x0, (), (), (), (), (), x6, x7, (), (), (), (), (), (), (), (), (), (), (), (), (), (), (), (), (), (), (), (), (), (), (), (), (), (), (), (), (), (), (), (), (), (), (), (), (), (), (), (), (), (), (), (), (), ()), ((h0_0, h0_1, h0_2, ()), h1, ()))
noncomputable def body_sl7One_0 : Code := ((loopsIn 0 (bodyOf Try.f146)).getD 0 (0, .skip)).2
theorem R_sl7One_0 (x0 : List (Int × ByteArray × ByteArray)) (x6 : Bool) (x7 : Int) (h0_0 : Int) (h0_1 : ByteArray) (h0_2 : ByteArray) (h1 : List (Int × ByteArray × ByteArray)) : (T_sl7One_0 x0 x6 x7 h0_0 h0_1 h0_2 h1).val (D := S_sl7One_0.den) = .fail ∨ Runs sp_sl7One_0 (pk_sl7One_0 x0 x6 x7 h0_0 h0_1 h0_2 h1) (T_sl7One_0 x0 x6 x7 h0_0 h0_1 h0_2 h1).val := Runs.ofIt (step := sp_sl7One_0) (fun v : V_sl7One_0 => pk_sl7One_0 v.1 v.2.1 v.2.2.1 h0_0 h0_1 h0_2 v.2.2.2) (ct := (ct_sl7One_0 h0_0 h0_1 h0_2)) rfl (fun v => ((relB (relB (relB (relB (relB (relB (relB (relB (relB rfl rfl) rfl) rfl) rfl) rfl) (relB (relB (relB (relB rfl rfl) rfl) rfl) rfl)) rfl) (relB (relB (relB (relB rfl rfl) rfl) rfl) rfl)) rfl) : (st_sl7One_0 v.1 v.2.1 v.2.2.1 h0_0 h0_1 h0_2 v.2.2.2).val = relS (fun v : V_sl7One_0 => pk_sl7One_0 v.1 v.2.1 v.2.2.1 h0_0 h0_1 h0_2 v.2.2.2) (ct_sl7One_0 h0_0 h0_1 h0_2) (ss_sl7One_0 v.1 v.2.1 v.2.2.1 h0_0 h0_1 h0_2 v.2.2.2))) (fun a => ((cendB (cendD (by simp)) cendF) : CEnd _ ((ct_sl7One_0 h0_0 h0_1 h0_2) a))) (x0, x6, x7, h1)
theorem rd_sl7One_0 : ∀ d, execC Try.prog tt S11 QF11 (fun _ _ => none) 0 body_sl7One_0 (S_sl7One_0.st d 0 []) (fun e s' => some (e, S_sl7One_0.cutE (kepts [] [(0, [3, 5, 6])]) e s')) = (sp_sl7One_0 d).opt 0 [] := by
  intro d
  kernel_rfl
noncomputable abbrev say_sl7One_0 : St → Option Tree := S_sl7One_0.say 0 [] [] (fun d => T_sl7One_0 d.1.1 d.1.2.2.2.2.2.2.1 d.1.2.2.2.2.2.2.2.1 d.2.1.1 d.2.1.2.1 d.2.1.2.2.1 d.2.2.1)
theorem lw_sl7One_0 : LoopWp Try.prog say_sl7One_0 body_sl7One_0 := SS.wp G11 (fun _ _ => none) (by rw [show loopsIn 0 body_sl7One_0 = [] by kernel_rfl]; simp) S_sl7One_0 0 [] (kepts [] [(0, [3, 5, 6])]) [] sp_sl7One_0 rd_sl7One_0 _ (fun d => R_sl7One_0 d.1.1 d.1.2.2.2.2.2.2.1 d.1.2.2.2.2.2.2.2.1 d.2.1.1 d.2.1.2.1 d.2.1.2.2.1 d.2.2.1)
noncomputable def sl7One (a0 : List (Int × ByteArray × ByteArray)) (a1 : Int) (a2 : ByteArray) (a3 : ByteArray) : List (Int × ByteArray × ByteArray) := (cond (!((it_sl7One_0 a0 false (0 : Int) a1 a2 a3 ([] : List (Int × ByteArray × ByteArray))).2.1)) (((it_sl7One_0 a0 false (0 : Int) a1 a2 a3 ([] : List (Int × ByteArray × ByteArray))).2.2) ++ [(a1, (a2, a3))]) ((it_sl7One_0 a0 false (0 : Int) a1 a2 a3 ([] : List (Int × ByteArray × ByteArray))).2.2))
noncomputable abbrev e_sl7One (r : List (Int × ByteArray × ByteArray)) : AV × List AObj := ((.all 0 3), [(.rows 85 true (.pair (.int .i64) (.pair .str .str)) r)])
noncomputable abbrev g_sl7One : pshsDen P_sl7One → AV × List AObj := fun d => e_sl7One (sl7One d.1 d.2.1.1 d.2.1.2.1 d.2.1.2.2.1)
noncomputable def q_sl7One (a0 : List (Int × ByteArray × ByteArray)) (a1 : Int) (a2 : ByteArray) (a3 : ByteArray) : Bool := ((it_sl7One_0 a0 false (0 : Int) a1 a2 a3 ([] : List (Int × ByteArray × ByteArray))).1 == 0) && (cond (!((it_sl7One_0 a0 false (0 : Int) a1 a2 a3 ([] : List (Int × ByteArray × ByteArray))).2.1)) (decide ((((it_sl7One_0 a0 false (0 : Int) a1 a2 a3 ([] : List (Int × ByteArray × ByteArray))).2.2).length + [(a1, (a2, a3))].length) * 40 ≤ MAXB)) true)
noncomputable abbrev pre_sl7One : pshsDen P_sl7One → Bool := fun d => q_sl7One d.1 d.2.1.1 d.2.1.2.1 d.2.1.2.2.1
theorem runA_sl7One (a0 : List (Int × ByteArray × ByteArray)) (a1 : Int) (a2 : ByteArray) (a3 : ByteArray) (hp : (((it_sl7One_0 a0 false (0 : Int) a1 a2 a3 ([] : List (Int × ByteArray × ByteArray))).1 == 0) && (cond (!((it_sl7One_0 a0 false (0 : Int) a1 a2 a3 ([] : List (Int × ByteArray × ByteArray))).2.1)) (decide ((((it_sl7One_0 a0 false (0 : Int) a1 a2 a3 ([] : List (Int × ByteArray × ByteArray))).2.2).length + [(a1, (a2, a3))].length) * 40 ≤ MAXB)) true)) = true) : runP false Try.prog tt S11 QF11 (fun b => match b with | 0 => say_sl7One_0 | _ => fun _ => none) Try.f146 (argsMk P_sl7One (a0, ((a1, (a2, (a3, ()))), ()))) = some (g_sl7One (a0, ((a1, (a2, (a3, ()))), ()))) := by
  refine Eq.trans (b := (cond ((it_sl7One_0 a0 false (0 : Int) a1 a2 a3 ([] : List (Int × ByteArray × ByteArray))).1 == 0) (cond (!((it_sl7One_0 a0 false (0 : Int) a1 a2 a3 ([] : List (Int × ByteArray × ByteArray))).2.1)) (cond (decide ((((it_sl7One_0 a0 false (0 : Int) a1 a2 a3 ([] : List (Int × ByteArray × ByteArray))).2.2).length + [(a1, (a2, a3))].length) * 40 ≤ MAXB)) (some (e_sl7One (((it_sl7One_0 a0 false (0 : Int) a1 a2 a3 ([] : List (Int × ByteArray × ByteArray))).2.2) ++ [(a1, (a2, a3))]))) none) (some (e_sl7One ((it_sl7One_0 a0 false (0 : Int) a1 a2 a3 ([] : List (Int × ByteArray × ByteArray))).2.2)))) none)) (by kernel_rfl) ?_
  exact (cndT (andL hp) (fun _h => (fun hp => (cndQ (F := fun r => some (e_sl7One r)) hp (fun hp => (cndT hp (fun _h => rfl))) (fun hp => rfl))) (andR hp)))
theorem run_sl7One : ∀ d, pre_sl7One d = true → runP false Try.prog tt S11 QF11 (fun b => match b with | 0 => say_sl7One_0 | _ => fun _ => none) Try.f146 (argsMk P_sl7One d) = some (g_sl7One d) := fun d hp => runA_sl7One d.1 d.2.1.1 d.2.1.2.1 d.2.1.2.2.1 hp
theorem c_sl7One : PContract Try.prog 146 (sumOf P_sl7One pre_sl7One g_sl7One) := PContract.of_data false G11 (fn := Try.f146) (by kernel_rfl) (L := fun b => match b with | 0 => say_sl7One_0 | _ => fun _ => none) (by rw [show loopsIn 0 (bodyOf Try.f146) = [(0, body_sl7One_0)] by kernel_rfl]; intro p hp; simp only [List.mem_singleton] at hp; subst hp; exact lw_sl7One_0) P_sl7One pre_sl7One g_sl7One run_sl7One
noncomputable def S12 : Tab := Tab.add S11 146 (lift (sumOf P_sl7One pre_sl7One g_sl7One))
noncomputable def QF12 : FuncId → Bool := QF11
theorem G12 : Good Try.prog tt S12 QF12 := G11.add c_sl7One ⟨Try.f146, by kernel_rfl, by kernel_rfl, by kernel_rfl⟩ (by kernel_rfl)

/-! 115 loop.example/g00244/spec.l7Draw -/
noncomputable abbrev SM_sl7Draw : SS := ⟨[.ptr 0 0 1 0], [.box [.t false (.sl (.int .u8)), .t true (.int .i64), .t true (.int .i64)]]⟩
noncomputable abbrev S_sl7Draw_0 : SS := ⟨[.ptr 0 0 1 0, .junk, .junk, .all 1 3, .t true (.int .i64), .junk, .junk, .junk, .junk, .junk, .junk, .junk, .junk, .junk, .junk, .junk, .junk, .junk], [.box [.t false (.sl (.int .u8)), .t true (.int .i64), .t true (.int .i64)], .rows 85 true (.pair (.int .i64) (.pair .str .str))]⟩
noncomputable abbrev E_sl7Draw_0_0 : SS := ⟨[.junk, .junk, .junk, .all 1 3, .junk, .junk, .junk, .junk, .junk, .junk, .junk, .junk, .junk, .junk, .junk, .junk, .junk, .junk], [.box [.t false (.sl (.int .u8)), .t true (.int .i64), .t true (.int .i64)], .rows 85 true (.pair (.int .i64) (.pair .str .str))]⟩
noncomputable def k1_sl7Draw (h0_0 : List Int) (h0_1 : Int) (h0_2 : Int) (h1 : List (Int × ByteArray × ByteArray)) := sl7One h1 ((sl7Op1 h0_0 h0_1 h0_2).1) ((sl7Op1 h0_0 h0_1 h0_2).2.1) ((sl7Op1 h0_0 h0_1 h0_2).2.2.1)
noncomputable def st_sl7Draw_0 (x4 : Int) (h0_0 : List Int) (h0_1 : Int) (h0_2 : Int) (h1 : List (Int × ByteArray × ByteArray)) : RT S_sl7Draw_0.den := (.br (decide (x4 > (0 : Int))) (.br (q_sl7Op1 h0_0 h0_1 h0_2) (.br (q_sl7One h1 ((sl7Op1 h0_0 h0_1 h0_2).1) ((sl7Op1 h0_0 h0_1 h0_2).2.1) ((sl7Op1 h0_0 h0_1 h0_2).2.2.1)) (.next (((), (), (), (), IntKind.wrap .i64 (x4 - (1 : Int)), (), (), (), (), (), (), (), (), (), (), (), (), (), ()), ((((sl7Op1 h0_0 h0_1 h0_2).2.2.2.1), ((sl7Op1 h0_0 h0_1 h0_2).2.2.2.2.1), ((sl7Op1 h0_0 h0_1 h0_2).2.2.2.2.2.1), ()), (k1_sl7Draw h0_0 h0_1 h0_2 h1), ()))) .fail) .fail) (.done (.exit 0) E_sl7Draw_0_0 (((), (), (), (), (), (), (), (), (), (), (), (), (), (), (), (), (), (), ()), ((h0_0, h0_1, h0_2, ()), h1, ()))))
noncomputable abbrev V_sl7Draw_0 := (Int) × (List Int) × (Int) × (Int) × (List (Int × ByteArray × ByteArray))
noncomputable abbrev A_sl7Draw_0 := Nat × (List Int) × (Int) × (Int) × (List (Int × ByteArray × ByteArray))
noncomputable def fl_sl7Draw_0 : A_sl7Draw_0 := (99, ([] : List Int), ((0 : Int) : Int), ((0 : Int) : Int), ([] : List (Int × ByteArray × ByteArray)))
noncomputable def ss_sl7Draw_0 (x4 : Int) (h0_0 : List Int) (h0_1 : Int) (h0_2 : Int) (h1 : List (Int × ByteArray × ByteArray)) : V_sl7Draw_0 ⊕ A_sl7Draw_0 := (cond (decide (x4 > (0 : Int))) (cond (q_sl7Op1 h0_0 h0_1 h0_2) (cond (q_sl7One h1 ((sl7Op1 h0_0 h0_1 h0_2).1) ((sl7Op1 h0_0 h0_1 h0_2).2.1) ((sl7Op1 h0_0 h0_1 h0_2).2.2.1)) (.inl (IntKind.wrap .i64 (x4 - (1 : Int)), ((sl7Op1 h0_0 h0_1 h0_2).2.2.2.1), ((sl7Op1 h0_0 h0_1 h0_2).2.2.2.2.1), ((sl7Op1 h0_0 h0_1 h0_2).2.2.2.2.2.1), (k1_sl7Draw h0_0 h0_1 h0_2 h1))) (.inr fl_sl7Draw_0)) (.inr fl_sl7Draw_0)) (.inr (0, h0_0, h0_1, h0_2, h1)))
noncomputable def it_sl7Draw_0 (x4 : Int) (h0_0 : List Int) (h0_1 : Int) (h0_2 : Int) (h1 : List (Int × ByteArray × ByteArray)) : A_sl7Draw_0 := itX (fun v : V_sl7Draw_0 => ss_sl7Draw_0 v.1 v.2.1 v.2.2.1 v.2.2.2.1 v.2.2.2.2) fl_sl7Draw_0 (x4, h0_0, h0_1, h0_2, h1)
noncomputable def ct_sl7Draw_0 (a : A_sl7Draw_0) : CT := (.br (a.1 == 0) (.done (.exit 0) E_sl7Draw_0_0 (((), (), (), (), (), (), (), (), (), (), (), (), (), (), (), (), (), (), ()), ((a.2.1, a.2.2.1, a.2.2.2.1, ()), a.2.2.2.2, ()))) .fail)
noncomputable def T_sl7Draw_0 (x4 : Int) (h0_0 : List Int) (h0_1 : Int) (h0_2 : Int) (h1 : List (Int × ByteArray × ByteArray)) : CT := ct_sl7Draw_0 (it_sl7Draw_0 x4 h0_0 h0_1 h0_2 h1)
noncomputable abbrev sp_sl7Draw_0 : S_sl7Draw_0.den → RT S_sl7Draw_0.den := fun d => st_sl7Draw_0 d.1.2.2.2.2.1 d.2.1.1 d.2.1.2.1 d.2.1.2.2.1 d.2.2.1
noncomputable abbrev pk_sl7Draw_0 (x4 : Int) (h0_0 : List Int) (h0_1 : Int) (h0_2 : Int) (h1 : List (Int × ByteArray × ByteArray)) : S_sl7Draw_0.den := (((), (), (), (), x4, (), (), (), (), (), (), (), (), (), (), (), (), (), ()), ((h0_0, h0_1, h0_2, ()), h1, ()))
noncomputable def body_sl7Draw_0 : Code := ((loopsIn 0 (bodyOf Try.f115)).getD 0 (0, .skip)).2
theorem R_sl7Draw_0 (x4 : Int) (h0_0 : List Int) (h0_1 : Int) (h0_2 : Int) (h1 : List (Int × ByteArray × ByteArray)) : (T_sl7Draw_0 x4 h0_0 h0_1 h0_2 h1).val (D := S_sl7Draw_0.den) = .fail ∨ Runs sp_sl7Draw_0 (pk_sl7Draw_0 x4 h0_0 h0_1 h0_2 h1) (T_sl7Draw_0 x4 h0_0 h0_1 h0_2 h1).val := Runs.ofIt (step := sp_sl7Draw_0) (fun v : V_sl7Draw_0 => pk_sl7Draw_0 v.1 v.2.1 v.2.2.1 v.2.2.2.1 v.2.2.2.2) (ct := ct_sl7Draw_0) rfl (fun v => ((relB (relB (relB rfl rfl) rfl) rfl) : (st_sl7Draw_0 v.1 v.2.1 v.2.2.1 v.2.2.2.1 v.2.2.2.2).val = relS (fun v : V_sl7Draw_0 => pk_sl7Draw_0 v.1 v.2.1 v.2.2.1 v.2.2.2.1 v.2.2.2.2) ct_sl7Draw_0 (ss_sl7Draw_0 v.1 v.2.1 v.2.2.1 v.2.2.2.1 v.2.2.2.2))) (fun a => ((cendB (cendD (by simp)) cendF) : CEnd _ (ct_sl7Draw_0 a))) (x4, h0_0, h0_1, h0_2, h1)
theorem rd_sl7Draw_0 : ∀ d, execC Try.prog tt S12 QF12 (fun _ _ => none) 0 body_sl7Draw_0 (S_sl7Draw_0.st d 1 []) (fun e s' => some (e, S_sl7Draw_0.cutE (kepts [] [(0, [3])]) e s')) = (sp_sl7Draw_0 d).opt 1 [] := by
  intro d
  kernel_rfl
noncomputable abbrev say_sl7Draw_0 : St → Option Tree := S_sl7Draw_0.say 1 [] [] (fun d => T_sl7Draw_0 d.1.2.2.2.2.1 d.2.1.1 d.2.1.2.1 d.2.1.2.2.1 d.2.2.1)
theorem lw_sl7Draw_0 : LoopWp Try.prog say_sl7Draw_0 body_sl7Draw_0 := SS.wp G12 (fun _ _ => none) (by rw [show loopsIn 0 body_sl7Draw_0 = [] by kernel_rfl]; simp) S_sl7Draw_0 1 [] (kepts [] [(0, [3])]) [] sp_sl7Draw_0 rd_sl7Draw_0 _ (fun d => R_sl7Draw_0 d.1.2.2.2.2.1 d.2.1.1 d.2.1.2.1 d.2.1.2.2.1 d.2.2.1)
noncomputable def k2_sl7Draw (h0_0 : List Int) (h0_1 : Int) (h0_2 : Int) := it_sl7Draw_0 (IntKind.wrap .i64 ((1 : Int) + ((sl1Below (4 : Int) h0_0 h0_1 h0_2).1))) ((sl1Below (4 : Int) h0_0 h0_1 h0_2).2.1) ((sl1Below (4 : Int) h0_0 h0_1 h0_2).2.2.1) ((sl1Below (4 : Int) h0_0 h0_1 h0_2).2.2.2) ([] : List (Int × ByteArray × ByteArray))
noncomputable def sl7Draw (h0_0 : List Int) (h0_1 : Int) (h0_2 : Int) : (List Int) × Int × Int × List (Int × ByteArray × ByteArray) := (((k2_sl7Draw h0_0 h0_1 h0_2).2.1), ((k2_sl7Draw h0_0 h0_1 h0_2).2.2.1), ((k2_sl7Draw h0_0 h0_1 h0_2).2.2.2.1), ((k2_sl7Draw h0_0 h0_1 h0_2).2.2.2.2))
noncomputable abbrev e_sl7Draw (r : (List Int) × Int × Int × List (Int × ByteArray × ByteArray)) : AV × List AObj × List Nat := ((.all 1 3), [(.box [(.t false (.sl (.int .u8)) r.1), (.t true (.int .i64) r.2.1), (.t true (.int .i64) r.2.2.1)]), (.rows 85 true (.pair (.int .i64) (.pair .str .str)) r.2.2.2)], [])
noncomputable abbrev g_sl7Draw : SM_sl7Draw.den → AV × List AObj × List Nat := fun d => e_sl7Draw (sl7Draw d.2.1.1 d.2.1.2.1 d.2.1.2.2.1)
noncomputable def q_sl7Draw (h0_0 : List Int) (h0_1 : Int) (h0_2 : Int) : Bool := (q_sl1Below (4 : Int) h0_0 h0_1 h0_2) && ((k2_sl7Draw h0_0 h0_1 h0_2).1 == 0)
noncomputable abbrev pre_sl7Draw : SM_sl7Draw.den → Bool := fun d => q_sl7Draw d.2.1.1 d.2.1.2.1 d.2.1.2.2.1
theorem runA_sl7Draw (h0_0 : List Int) (h0_1 : Int) (h0_2 : Int) (hp : ((q_sl1Below (4 : Int) h0_0 h0_1 h0_2) && ((k2_sl7Draw h0_0 h0_1 h0_2).1 == 0)) = true) : runM Try.prog tt S12 QF12 (fun b => match b with | 0 => say_sl7Draw_0 | _ => fun _ => none) Try.f115 (shsMk SM_sl7Draw.sl ((((), ()), ((h0_0, h0_1, h0_2, ()), ())) : SM_sl7Draw.den).1) (ohsMk SM_sl7Draw.hp ((((), ()), ((h0_0, h0_1, h0_2, ()), ())) : SM_sl7Draw.den).2) = some (g_sl7Draw (((), ()), ((h0_0, h0_1, h0_2, ()), ()))) := by
  refine Eq.trans (b := (cond (q_sl1Below (4 : Int) h0_0 h0_1 h0_2) (cond ((k2_sl7Draw h0_0 h0_1 h0_2).1 == 0) (some (e_sl7Draw (((k2_sl7Draw h0_0 h0_1 h0_2).2.1), ((k2_sl7Draw h0_0 h0_1 h0_2).2.2.1), ((k2_sl7Draw h0_0 h0_1 h0_2).2.2.2.1), ((k2_sl7Draw h0_0 h0_1 h0_2).2.2.2.2)))) none) none)) (by kernel_rfl) ?_
  exact (cndT (andL hp) (fun _h => (fun hp => (cndT hp (fun _h => rfl))) (andR hp)))
theorem run_sl7Draw : ∀ d : SM_sl7Draw.den, pre_sl7Draw d = true → runM Try.prog tt S12 QF12 (fun b => match b with | 0 => say_sl7Draw_0 | _ => fun _ => none) Try.f115 (shsMk SM_sl7Draw.sl (d : SM_sl7Draw.den).1) (ohsMk SM_sl7Draw.hp (d : SM_sl7Draw.den).2) = some (g_sl7Draw d) := fun d hp => runA_sl7Draw d.2.1.1 d.2.1.2.1 d.2.1.2.2.1 hp
theorem c_sl7Draw : MContract Try.prog 115 (win winIds (msum SM_sl7Draw pre_sl7Draw g_sl7Draw)) := (MContract.of_data G12 (fn := Try.f115) (by kernel_rfl) (L := fun b => match b with | 0 => say_sl7Draw_0 | _ => fun _ => none) (by rw [show loopsIn 0 (bodyOf Try.f115) = [(0, body_sl7Draw_0)] by kernel_rfl]; intro p hp; simp only [List.mem_singleton] at hp; subst hp; exact lw_sl7Draw_0) SM_sl7Draw pre_sl7Draw g_sl7Draw run_sl7Draw).win winIds
noncomputable def S13 : Tab := Tab.add S12 115 (win winIds (msum SM_sl7Draw pre_sl7Draw g_sl7Draw))
noncomputable def QF13 : FuncId → Bool := QF12
theorem G13 : Good Try.prog tt S13 QF13 := G12.addM c_sl7Draw (win_local _) ⟨Try.f115, by kernel_rfl, by kernel_rfl, by kernel_rfl⟩ (by kernel_rfl)

/-! 62 loop.example/g00244/spec.DrawOps -/
noncomputable abbrev P_sDrawOps : List PSh := [.t (.sl (.int .u8))]
noncomputable def k1_sDrawOps (a0 : List Int) := sl7Draw ((sl3Draw ((sl1New a0).1) ((sl1New a0).2.1) ((sl1New a0).2.2)).1) ((sl3Draw ((sl1New a0).1) ((sl1New a0).2.1) ((sl1New a0).2.2)).2.1) ((sl3Draw ((sl1New a0).1) ((sl1New a0).2.1) ((sl1New a0).2.2)).2.2.1)
noncomputable def sDrawOps (a0 : List Int) : (List (ByteArray × ByteArray)) × List (Int × ByteArray × ByteArray) := (((sl3Draw ((sl1New a0).1) ((sl1New a0).2.1) ((sl1New a0).2.2)).2.2.2), ((k1_sDrawOps a0).2.2.2))
noncomputable abbrev e_sDrawOps (r : (List (ByteArray × ByteArray)) × List (Int × ByteArray × ByteArray)) : AV × List AObj := ((.tup [(.t true (.sl (.pair .str .str)) r.1), (.t true (.sl (.pair (.int .i64) (.pair .str .str))) r.2)]), [])
noncomputable abbrev g_sDrawOps : pshsDen P_sDrawOps → AV × List AObj := fun d => e_sDrawOps (sDrawOps d.1)
noncomputable def q_sDrawOps (a0 : List Int) : Bool := (q_sl1New a0) && ((q_sl3Draw ((sl1New a0).1) ((sl1New a0).2.1) ((sl1New a0).2.2)) && (q_sl7Draw ((sl3Draw ((sl1New a0).1) ((sl1New a0).2.1) ((sl1New a0).2.2)).1) ((sl3Draw ((sl1New a0).1) ((sl1New a0).2.1) ((sl1New a0).2.2)).2.1) ((sl3Draw ((sl1New a0).1) ((sl1New a0).2.1) ((sl1New a0).2.2)).2.2.1)))
noncomputable abbrev pre_sDrawOps : pshsDen P_sDrawOps → Bool := fun d => q_sDrawOps d.1
theorem runA_sDrawOps (a0 : List Int) (hp : ((q_sl1New a0) && ((q_sl3Draw ((sl1New a0).1) ((sl1New a0).2.1) ((sl1New a0).2.2)) && (q_sl7Draw ((sl3Draw ((sl1New a0).1) ((sl1New a0).2.1) ((sl1New a0).2.2)).1) ((sl3Draw ((sl1New a0).1) ((sl1New a0).2.1) ((sl1New a0).2.2)).2.1) ((sl3Draw ((sl1New a0).1) ((sl1New a0).2.1) ((sl1New a0).2.2)).2.2.1)))) = true) : runP true Try.prog tt S13 QF13 (fun _ _ => none) Try.f62 (argsMk P_sDrawOps (a0, ())) = some (g_sDrawOps (a0, ())) := by
  refine Eq.trans (b := (cond (q_sl1New a0) (cond (q_sl3Draw ((sl1New a0).1) ((sl1New a0).2.1) ((sl1New a0).2.2)) (cond (q_sl7Draw ((sl3Draw ((sl1New a0).1) ((sl1New a0).2.1) ((sl1New a0).2.2)).1) ((sl3Draw ((sl1New a0).1) ((sl1New a0).2.1) ((sl1New a0).2.2)).2.1) ((sl3Draw ((sl1New a0).1) ((sl1New a0).2.1) ((sl1New a0).2.2)).2.2.1)) (some (e_sDrawOps (((sl3Draw ((sl1New a0).1) ((sl1New a0).2.1) ((sl1New a0).2.2)).2.2.2), ((k1_sDrawOps a0).2.2.2)))) none) none) none)) (by kernel_rfl) ?_
  exact (cndT (andL hp) (fun _h => (fun hp => (cndT (andL hp) (fun _h => (fun hp => (cndT hp (fun _h => rfl))) (andR hp)))) (andR hp)))
theorem run_sDrawOps : ∀ d, pre_sDrawOps d = true → runP true Try.prog tt S13 QF13 (fun _ _ => none) Try.f62 (argsMk P_sDrawOps d) = some (g_sDrawOps d) := fun d hp => runA_sDrawOps d.1 hp
theorem c_sDrawOps : PContract Try.prog 62 (sumOf P_sDrawOps pre_sDrawOps g_sDrawOps) := PContract.of_data true G13 (fn := Try.f62) (by kernel_rfl) (L := fun _ _ => none) (by rw [show loopsIn 0 (bodyOf Try.f62) = [] by kernel_rfl]; simp) P_sDrawOps pre_sDrawOps g_sDrawOps run_sDrawOps
noncomputable def S14 : Tab := Tab.add S13 62 (lift (sumOf P_sDrawOps pre_sDrawOps g_sDrawOps))
noncomputable def QF14 : FuncId → Bool := qadd QF13 62
theorem G14 : Good Try.prog tt S14 QF14 := G13.addQ c_sDrawOps ⟨Try.f62, by kernel_rfl, by kernel_rfl, by kernel_rfl⟩ (fun _ => rfl)

/-! 107 slices.Clone[[]loop.example/g00244/impl.Pair,loop.example/g00244/impl.Pair] -/
noncomputable abbrev P_slices_Clone_iPair : List PSh := [.t (.sl (.pair .str .str))]
noncomputable def slices_Clone_iPair (a0 : List (ByteArray × ByteArray)) : List (ByteArray × ByteArray) := a0
noncomputable abbrev e_slices_Clone_iPair (r : List (ByteArray × ByteArray)) : AV × List AObj := (.all 0 2, [.rows 118 true (.pair .str .str) r])
noncomputable abbrev g_slices_Clone_iPair : pshsDen P_slices_Clone_iPair → AV × List AObj := fun d => e_slices_Clone_iPair (slices_Clone_iPair d.1)
noncomputable def q_slices_Clone_iPair (a0 : List (ByteArray × ByteArray)) : Bool := decide ((([] : List (ByteArray × ByteArray)).length + a0.length) * 32 ≤ MAXB)
noncomputable abbrev pre_slices_Clone_iPair : pshsDen P_slices_Clone_iPair → Bool := fun d => q_slices_Clone_iPair d.1
theorem r1_slices_Clone_iPair (a0 : List (ByteArray × ByteArray)) (h0 : 0 < a0.length) (hp : q_slices_Clone_iPair a0 = true) : runP false Try.prog tt S14 QF14 (fun _ _ => none) Try.f107 [.t (Ty.sl (.pair .str .str)).flat (.sl (.pair .str .str)) a0] = some (e_slices_Clone_iPair a0) := by
  refine Eq.trans (b := cond (decide (0 < a0.length)) (cond (q_slices_Clone_iPair a0) (some (e_slices_Clone_iPair a0)) none) none) (by kernel_rfl) ?_
  rw [decide_eq_true h0, hp]; rfl
theorem r2_slices_Clone_iPair (A : Option Addr) (c : Nat) : runP false Try.prog tt S14 QF14 (fun _ _ => none) Try.f107 [.raw (.slice A 0 c)] = some (e_slices_Clone_iPair []) := by
  cases A <;> kernel_rfl
theorem c_slices_Clone_iPair : PContract Try.prog 107 (sumOf P_slices_Clone_iPair pre_slices_Clone_iPair g_slices_Clone_iPair) := PContract.split (e := (.pair .str .str)) (pre := q_slices_Clone_iPair) (g := fun a0 => e_slices_Clone_iPair (slices_Clone_iPair a0)) (fun l h0 hp => PCalls.of_run false G14 (fn := Try.f107) (by kernel_rfl) (L := fun _ _ => none) (by rw [show loopsIn 0 (bodyOf Try.f107) = [] by kernel_rfl]; simp) (r1_slices_Clone_iPair l h0 hp) rfl rfl) (fun A c => PCalls.of_run false G14 (fn := Try.f107) (by kernel_rfl) (L := fun _ _ => none) (by rw [show loopsIn 0 (bodyOf Try.f107) = [] by kernel_rfl]; simp) (r2_slices_Clone_iPair A c) rfl rfl)
noncomputable def S15 : Tab := Tab.add S14 107 (lift (sumOf P_slices_Clone_iPair pre_slices_Clone_iPair g_slices_Clone_iPair))
noncomputable def QF15 : FuncId → Bool := QF14
theorem G15 : Good Try.prog tt S15 QF15 := G14.add c_slices_Clone_iPair ⟨Try.f107, by kernel_rfl, by kernel_rfl, by kernel_rfl⟩ (by kernel_rfl)

/-! 154 loop.example/g00244/impl.pairAt$1 -/
noncomputable abbrev SM_ipairAt_1 : SS := ⟨[.agg [.t true .str, .t true .str], .ptr 0 0 1 0], [.box [.t true .str]]⟩
noncomputable def ipairAt_1 (x0_0 : ByteArray) (x0_1 : ByteArray) (h0_0 : ByteArray) : Bool := (x0_0.toList == h0_0.toList)
noncomputable abbrev e_ipairAt_1 (h0_0 : ByteArray) (r : Bool) : AV × List AObj × List Nat := ((.t true .bool r), [(.box [(.t true .str h0_0)])], [])
noncomputable abbrev g_ipairAt_1 : SM_ipairAt_1.den → AV × List AObj × List Nat := fun d => e_ipairAt_1 d.2.1.1 (ipairAt_1 d.1.1.1 d.1.1.2.1 d.2.1.1)
noncomputable abbrev pre_ipairAt_1 : SM_ipairAt_1.den → Bool := fun d => true
theorem runA_ipairAt_1 (x0_0 : ByteArray) (x0_1 : ByteArray) (h0_0 : ByteArray) : runM Try.prog tt S15 QF15 (fun _ _ => none) Try.f154 (shsMk SM_ipairAt_1.sl ((((x0_0, x0_1, ()), (), ()), ((h0_0, ()), ())) : SM_ipairAt_1.den).1) (ohsMk SM_ipairAt_1.hp ((((x0_0, x0_1, ()), (), ()), ((h0_0, ()), ())) : SM_ipairAt_1.den).2) = some (g_ipairAt_1 (((x0_0, x0_1, ()), (), ()), ((h0_0, ()), ()))) := by
  kernel_rfl
theorem run_ipairAt_1 : ∀ d : SM_ipairAt_1.den, pre_ipairAt_1 d = true → runM Try.prog tt S15 QF15 (fun _ _ => none) Try.f154 (shsMk SM_ipairAt_1.sl (d : SM_ipairAt_1.den).1) (ohsMk SM_ipairAt_1.hp (d : SM_ipairAt_1.den).2) = some (g_ipairAt_1 d) := fun d hp => runA_ipairAt_1 d.1.1.1 d.1.1.2.1 d.2.1.1
theorem c_ipairAt_1 : MContract Try.prog 154 (winQ (msum SM_ipairAt_1 pre_ipairAt_1 g_ipairAt_1)) := (MContract.of_data G15 (fn := Try.f154) (by kernel_rfl) (L := fun _ _ => none) (by rw [show loopsIn 0 (bodyOf Try.f154) = [] by kernel_rfl]; simp) SM_ipairAt_1 pre_ipairAt_1 g_ipairAt_1 run_ipairAt_1).winQ (msum_quiet fun d => ⟨rfl, rfl⟩)
noncomputable def S16 : Tab := Tab.add S15 154 (winQ (msum SM_ipairAt_1 pre_ipairAt_1 g_ipairAt_1))
noncomputable def QF16 : FuncId → Bool := qadd QF15 154
theorem G16 : Good Try.prog tt S16 QF16 := G15.addMQ c_ipairAt_1 (winQ_local _) ⟨Try.f154, by kernel_rfl, by kernel_rfl, by kernel_rfl⟩ (winQ_quiet _)

/-! 153 slices.IndexFunc[[]loop.example/g00244/impl.Pair,loop.example/g00244/impl.Pair] -/
noncomputable abbrev SM_slices_IndexFunc_iPair_ipairAt_1 : SS := ⟨[.t false (.sl (.pair .str .str)), .fn 154 [0]], [.box [.t true .str]]⟩
noncomputable abbrev S_slices_IndexFunc_iPair_ipairAt_1_0 : SS := ⟨[.t false (.sl (.pair .str .str)), .fn 154 [0], .junk, .junk, .junk, .junk, .junk, .t true (.int .i64), .t true (.int .i64), .junk, .junk, .junk, .junk, .junk, .junk, .junk, .junk, .junk, .junk], [.box [.t true .str]]⟩
noncomputable abbrev E_slices_IndexFunc_iPair_ipairAt_1_0_0 : SS := ⟨[.junk, .junk, .junk, .junk, .t true (.int .i64), .junk, .junk, .junk, .junk, .junk, .junk, .junk, .junk, .junk, .junk, .junk, .junk, .junk, .junk], [.box [.t true .str]]⟩
noncomputable abbrev E_slices_IndexFunc_iPair_ipairAt_1_0_1 : SS := ⟨[.junk, .junk, .junk, .junk, .junk, .junk, .junk, .junk, .junk, .junk, .junk, .junk, .junk, .junk, .junk, .junk, .junk, .junk, .junk], [.box [.t true .str]]⟩
noncomputable def k1_slices_IndexFunc_iPair_ipairAt_1 (x0 : List (ByteArray × ByteArray)) (x8 : Int) (h0_0 : ByteArray) := ipairAt_1 ((x0.getD x8.toNat ((⟨#[]⟩ : ByteArray), (⟨#[]⟩ : ByteArray))).1) ((x0.getD x8.toNat ((⟨#[]⟩ : ByteArray), (⟨#[]⟩ : ByteArray))).2) h0_0
noncomputable def st_slices_IndexFunc_iPair_ipairAt_1_0 (x0 : List (ByteArray × ByteArray)) (x7 : Int) (x8 : Int) (h0_0 : ByteArray) : RT S_slices_IndexFunc_iPair_ipairAt_1_0.den := (.br (decide (x8 < x7)) (.br (decide (0 ≤ x8 ∧ x8 < ((x0.length : Nat) : Int))) (.br (k1_slices_IndexFunc_iPair_ipairAt_1 x0 x8 h0_0) (.done .ret E_slices_IndexFunc_iPair_ipairAt_1_0_0 (((), (), (), (), x8, (), (), (), (), (), (), (), (), (), (), (), (), (), (), ()), ((h0_0, ()), ()))) (.next ((x0, (), (), (), (), (), (), x7, IntKind.wrap .i64 (x8 + (1 : Int)), (), (), (), (), (), (), (), (), (), (), ()), ((h0_0, ()), ())))) .fail) (.done (.exit 0) E_slices_IndexFunc_iPair_ipairAt_1_0_1 (((), (), (), (), (), (), (), (), (), (), (), (), (), (), (), (), (), (), (), ()), ((h0_0, ()), ()))))
noncomputable abbrev V_slices_IndexFunc_iPair_ipairAt_1_0 := (List (ByteArray × ByteArray)) × (Int) × (Int)
noncomputable abbrev A_slices_IndexFunc_iPair_ipairAt_1_0 := Nat × (Int)
noncomputable def fl_slices_IndexFunc_iPair_ipairAt_1_0 : A_slices_IndexFunc_iPair_ipairAt_1_0 := (99, ((0 : Int) : Int))
noncomputable def ss_slices_IndexFunc_iPair_ipairAt_1_0 (x0 : List (ByteArray × ByteArray)) (x7 : Int) (x8 : Int) (h0_0 : ByteArray) : V_slices_IndexFunc_iPair_ipairAt_1_0 ⊕ A_slices_IndexFunc_iPair_ipairAt_1_0 := (cond (decide (x8 < x7)) (cond (decide (0 ≤ x8 ∧ x8 < ((x0.length : Nat) : Int))) (cond (k1_slices_IndexFunc_iPair_ipairAt_1 x0 x8 h0_0) (.inr (0, x8)) (.inl (x0, x7, IntKind.wrap .i64 (x8 + (1 : Int))))) (.inr fl_slices_IndexFunc_iPair_ipairAt_1_0)) (.inr (1, ((0 : Int) : Int))))
noncomputable def it_slices_IndexFunc_iPair_ipairAt_1_0 (x0 : List (ByteArray × ByteArray)) (x7 : Int) (x8 : Int) (h0_0 : ByteArray) : A_slices_IndexFunc_iPair_ipairAt_1_0 := itX (fun v : V_slices_IndexFunc_iPair_ipairAt_1_0 => ss_slices_IndexFunc_iPair_ipairAt_1_0 v.1 v.2.1 v.2.2 h0_0) fl_slices_IndexFunc_iPair_ipairAt_1_0 (x0, x7, x8)
noncomputable def ct_slices_IndexFunc_iPair_ipairAt_1_0 (h0_0 : ByteArray) (a : A_slices_IndexFunc_iPair_ipairAt_1_0) : CT := (.br (a.1 == 0) (.done .ret E_slices_IndexFunc_iPair_ipairAt_1_0_0 (((), (), (), (), a.2, (), (), (), (), (), (), (), (), (), (), (), (), (), (), ()), ((h0_0, ()), ()))) (.br (a.1 == 1) (.done (.exit 0) E_slices_IndexFunc_iPair_ipairAt_1_0_1 (((), (), (), (), (), (), (), (), (), (), (), (), (), (), (), (), (), (), (), ()), ((h0_0, ()), ()))) .fail))
noncomputable def T_slices_IndexFunc_iPair_ipairAt_1_0 (x0 : List (ByteArray × ByteArray)) (x7 : Int) (x8 : Int) (h0_0 : ByteArray) : CT := (ct_slices_IndexFunc_iPair_ipairAt_1_0 h0_0) (it_slices_IndexFunc_iPair_ipairAt_1_0 x0 x7 x8 h0_0)
noncomputable abbrev sp_slices_IndexFunc_iPair_ipairAt_1_0 : S_slices_IndexFunc_iPair_ipairAt_1_0.den → RT S_slices_IndexFunc_iPair_ipairAt_1_0.den := fun d => st_slices_IndexFunc_iPair_ipairAt_1_0 d.1.1 d.1.2.2.2.2.2.2.2.1 d.1.2.2.2.2.2.2.2.2.1 d.2.1.1
noncomputable abbrev pk_slices_IndexFunc_iPair_ipairAt_1_0 (x0 : List (ByteArray × ByteArray)) (x7 : Int) (x8 : Int) (h0_0 : ByteArray) : S_slices_IndexFunc_iPair_ipairAt_1_0.den := ((x0, (), (), (), (), (), (), x7, x8, (), (), (), (), (), (), (), (), (), (), ()), ((h0_0, ()), ()))
noncomputable def body_slices_IndexFunc_iPair_ipairAt_1_0 : Code := ((loopsIn 0 (bodyOf Try.f153)).getD 0 (0, .skip)).2
theorem R_slices_IndexFunc_iPair_ipairAt_1_0 (x0 : List (ByteArray × ByteArray)) (x7 : Int) (x8 : Int) (h0_0 : ByteArray) : (T_slices_IndexFunc_iPair_ipairAt_1_0 x0 x7 x8 h0_0).val (D := S_slices_IndexFunc_iPair_ipairAt_1_0.den) = .fail ∨ Runs sp_slices_IndexFunc_iPair_ipairAt_1_0 (pk_slices_IndexFunc_iPair_ipairAt_1_0 x0 x7 x8 h0_0) (T_slices_IndexFunc_iPair_ipairAt_1_0 x0 x7 x8 h0_0).val := Runs.ofIt (step := sp_slices_IndexFunc_iPair_ipairAt_1_0) (fun v : V_slices_IndexFunc_iPair_ipairAt_1_0 => pk_slices_IndexFunc_iPair_ipairAt_1_0 v.1 v.2.1 v.2.2 h0_0) (ct := (ct_slices_IndexFunc_iPair_ipairAt_1_0 h0_0)) rfl (fun v => ((relB (relB (relB rfl rfl) rfl) rfl) : (st_slices_IndexFunc_iPair_ipairAt_1_0 v.1 v.2.1 v.2.2 h0_0).val = relS (fun v : V_slices_IndexFunc_iPair_ipairAt_1_0 => pk_slices_IndexFunc_iPair_ipairAt_1_0 v.1 v.2.1 v.2.2 h0_0) (ct_slices_IndexFunc_iPair_ipairAt_1_0 h0_0) (ss_slices_IndexFunc_iPair_ipairAt_1_0 v.1 v.2.1 v.2.2 h0_0))) (fun a => ((cendB (cendD (by simp)) (cendB (cendD (by simp)) cendF)) : CEnd _ ((ct_slices_IndexFunc_iPair_ipairAt_1_0 h0_0) a))) (x0, x7, x8)
theorem rd_slices_IndexFunc_iPair_ipairAt_1_0 : ∀ d, execC Try.prog tt S16 QF16 (fun _ _ => none) 0 body_slices_IndexFunc_iPair_ipairAt_1_0 (S_slices_IndexFunc_iPair_ipairAt_1_0.st d 1 []) (fun e s' => some (e, S_slices_IndexFunc_iPair_ipairAt_1_0.cutE (kepts [4] [(0, [])]) e s')) = (sp_slices_IndexFunc_iPair_ipairAt_1_0 d).opt 1 [] := by
  intro d
  kernel_rfl
noncomputable abbrev say_slices_IndexFunc_iPair_ipairAt_1_0 : St → Option Tree := S_slices_IndexFunc_iPair_ipairAt_1_0.say 1 [] [] (fun d => T_slices_IndexFunc_iPair_ipairAt_1_0 d.1.1 d.1.2.2.2.2.2.2.2.1 d.1.2.2.2.2.2.2.2.2.1 d.2.1.1)
theorem lw_slices_IndexFunc_iPair_ipairAt_1_0 : LoopWp Try.prog say_slices_IndexFunc_iPair_ipairAt_1_0 body_slices_IndexFunc_iPair_ipairAt_1_0 := SS.wp G16 (fun _ _ => none) (by rw [show loopsIn 0 body_slices_IndexFunc_iPair_ipairAt_1_0 = [] by kernel_rfl]; simp) S_slices_IndexFunc_iPair_ipairAt_1_0 1 [] (kepts [4] [(0, [])]) [] sp_slices_IndexFunc_iPair_ipairAt_1_0 rd_slices_IndexFunc_iPair_ipairAt_1_0 _ (fun d => R_slices_IndexFunc_iPair_ipairAt_1_0 d.1.1 d.1.2.2.2.2.2.2.2.1 d.1.2.2.2.2.2.2.2.2.1 d.2.1.1)
noncomputable def slices_IndexFunc_iPair_ipairAt_1 (x0 : List (ByteArray × ByteArray)) (h0_0 : ByteArray) : Int := (cond ((it_slices_IndexFunc_iPair_ipairAt_1_0 x0 ((x0.length : Nat) : Int) (0 : Int) h0_0).1 == 0) ((it_slices_IndexFunc_iPair_ipairAt_1_0 x0 ((x0.length : Nat) : Int) (0 : Int) h0_0).2) (-1 : Int))
noncomputable abbrev e_slices_IndexFunc_iPair_ipairAt_1 (h0_0 : ByteArray) (r : Int) : AV × List AObj × List Nat := ((.t true (.int .i64) r), [(.box [(.t true .str h0_0)])], [])
noncomputable abbrev g_slices_IndexFunc_iPair_ipairAt_1 : SM_slices_IndexFunc_iPair_ipairAt_1.den → AV × List AObj × List Nat := fun d => e_slices_IndexFunc_iPair_ipairAt_1 d.2.1.1 (slices_IndexFunc_iPair_ipairAt_1 d.1.1 d.2.1.1)
noncomputable def q_slices_IndexFunc_iPair_ipairAt_1 (x0 : List (ByteArray × ByteArray)) (h0_0 : ByteArray) : Bool := cond ((it_slices_IndexFunc_iPair_ipairAt_1_0 x0 ((x0.length : Nat) : Int) (0 : Int) h0_0).1 == 0) true ((it_slices_IndexFunc_iPair_ipairAt_1_0 x0 ((x0.length : Nat) : Int) (0 : Int) h0_0).1 == 1)
noncomputable abbrev pre_slices_IndexFunc_iPair_ipairAt_1 : SM_slices_IndexFunc_iPair_ipairAt_1.den → Bool := fun d => q_slices_IndexFunc_iPair_ipairAt_1 d.1.1 d.2.1.1
theorem runA_slices_IndexFunc_iPair_ipairAt_1 (x0 : List (ByteArray × ByteArray)) (h0_0 : ByteArray) (hp : (cond ((it_slices_IndexFunc_iPair_ipairAt_1_0 x0 ((x0.length : Nat) : Int) (0 : Int) h0_0).1 == 0) true ((it_slices_IndexFunc_iPair_ipairAt_1_0 x0 ((x0.length : Nat) : Int) (0 : Int) h0_0).1 == 1)) = true) : runM Try.prog tt S16 QF16 (fun b => match b with | 0 => say_slices_IndexFunc_iPair_ipairAt_1_0 | _ => fun _ => none) Try.f153 (shsMk SM_slices_IndexFunc_iPair_ipairAt_1.sl (((x0, (), ()), ((h0_0, ()), ())) : SM_slices_IndexFunc_iPair_ipairAt_1.den).1) (ohsMk SM_slices_IndexFunc_iPair_ipairAt_1.hp (((x0, (), ()), ((h0_0, ()), ())) : SM_slices_IndexFunc_iPair_ipairAt_1.den).2) = some (g_slices_IndexFunc_iPair_ipairAt_1 ((x0, (), ()), ((h0_0, ()), ()))) := by
  refine Eq.trans (b := (cond ((it_slices_IndexFunc_iPair_ipairAt_1_0 x0 ((x0.length : Nat) : Int) (0 : Int) h0_0).1 == 0) (some (e_slices_IndexFunc_iPair_ipairAt_1 h0_0 ((it_slices_IndexFunc_iPair_ipairAt_1_0 x0 ((x0.length : Nat) : Int) (0 : Int) h0_0).2))) (cond ((it_slices_IndexFunc_iPair_ipairAt_1_0 x0 ((x0.length : Nat) : Int) (0 : Int) h0_0).1 == 1) (some (e_slices_IndexFunc_iPair_ipairAt_1 h0_0 (-1 : Int))) none))) (by kernel_rfl) ?_
  exact (cndQ (F := fun r => some (e_slices_IndexFunc_iPair_ipairAt_1 h0_0 r)) hp (fun hp => rfl) (fun hp => (cndT hp (fun _h => rfl))))
theorem run_slices_IndexFunc_iPair_ipairAt_1 : ∀ d : SM_slices_IndexFunc_iPair_ipairAt_1.den, pre_slices_IndexFunc_iPair_ipairAt_1 d = true → runM Try.prog tt S16 QF16 (fun b => match b with | 0 => say_slices_IndexFunc_iPair_ipairAt_1_0 | _ => fun _ => none) Try.f153 (shsMk SM_slices_IndexFunc_iPair_ipairAt_1.sl (d : SM_slices_IndexFunc_iPair_ipairAt_1.den).1) (ohsMk SM_slices_IndexFunc_iPair_ipairAt_1.hp (d : SM_slices_IndexFunc_iPair_ipairAt_1.den).2) = some (g_slices_IndexFunc_iPair_ipairAt_1 d) := fun d hp => runA_slices_IndexFunc_iPair_ipairAt_1 d.1.1 d.2.1.1 hp
theorem c_slices_IndexFunc_iPair_ipairAt_1 : MContract Try.prog 153 (winQ (msum SM_slices_IndexFunc_iPair_ipairAt_1 pre_slices_IndexFunc_iPair_ipairAt_1 g_slices_IndexFunc_iPair_ipairAt_1)) := (MContract.of_data G16 (fn := Try.f153) (by kernel_rfl) (L := fun b => match b with | 0 => say_slices_IndexFunc_iPair_ipairAt_1_0 | _ => fun _ => none) (by rw [show loopsIn 0 (bodyOf Try.f153) = [(0, body_slices_IndexFunc_iPair_ipairAt_1_0)] by kernel_rfl]; intro p hp; simp only [List.mem_singleton] at hp; subst hp; exact lw_slices_IndexFunc_iPair_ipairAt_1_0) SM_slices_IndexFunc_iPair_ipairAt_1 pre_slices_IndexFunc_iPair_ipairAt_1 g_slices_IndexFunc_iPair_ipairAt_1 run_slices_IndexFunc_iPair_ipairAt_1).winQ (msum_quiet fun d => ⟨rfl, rfl⟩)
noncomputable def S17 : Tab := Tab.add S16 153 (winQ (msum SM_slices_IndexFunc_iPair_ipairAt_1 pre_slices_IndexFunc_iPair_ipairAt_1 g_slices_IndexFunc_iPair_ipairAt_1))
noncomputable def QF17 : FuncId → Bool := qadd QF16 153
theorem G17 : Good Try.prog tt S17 QF17 := G16.addMQ c_slices_IndexFunc_iPair_ipairAt_1 (winQ_local _) ⟨Try.f153, by kernel_rfl, by kernel_rfl, by kernel_rfl⟩ (winQ_quiet _)

/-! 125 loop.example/g00244/impl.pairAt -/
noncomputable abbrev P_ipairAt : List PSh := [.t (.sl (.pair .str .str)), .t .str]
noncomputable def ipairAt (a0 : List (ByteArray × ByteArray)) (a1 : ByteArray) : Int := (slices_IndexFunc_iPair_ipairAt_1 a0 a1)
noncomputable abbrev e_ipairAt (r : Int) : AV × List AObj := ((.t true (.int .i64) r), [])
noncomputable abbrev g_ipairAt : pshsDen P_ipairAt → AV × List AObj := fun d => e_ipairAt (ipairAt d.1 d.2.1)
noncomputable def q_ipairAt (a0 : List (ByteArray × ByteArray)) (a1 : ByteArray) : Bool := q_slices_IndexFunc_iPair_ipairAt_1 a0 a1
noncomputable abbrev pre_ipairAt : pshsDen P_ipairAt → Bool := fun d => q_ipairAt d.1 d.2.1
theorem runA_ipairAt (a0 : List (ByteArray × ByteArray)) (a1 : ByteArray) (hp : (q_slices_IndexFunc_iPair_ipairAt_1 a0 a1) = true) : runP true Try.prog tt S17 QF17 (fun _ _ => none) Try.f125 (argsMk P_ipairAt (a0, (a1, ()))) = some (g_ipairAt (a0, (a1, ()))) := by
  refine Eq.trans (b := (cond (q_slices_IndexFunc_iPair_ipairAt_1 a0 a1) (some (e_ipairAt (slices_IndexFunc_iPair_ipairAt_1 a0 a1))) none)) (by kernel_rfl) ?_
  exact (cndT hp (fun _h => rfl))
theorem run_ipairAt : ∀ d, pre_ipairAt d = true → runP true Try.prog tt S17 QF17 (fun _ _ => none) Try.f125 (argsMk P_ipairAt d) = some (g_ipairAt d) := fun d hp => runA_ipairAt d.1 d.2.1 hp
theorem c_ipairAt : PContract Try.prog 125 (sumOf P_ipairAt pre_ipairAt g_ipairAt) := PContract.of_data true G17 (fn := Try.f125) (by kernel_rfl) (L := fun _ _ => none) (by rw [show loopsIn 0 (bodyOf Try.f125) = [] by kernel_rfl]; simp) P_ipairAt pre_ipairAt g_ipairAt run_ipairAt
noncomputable def S18 : Tab := Tab.add S17 125 (lift (sumOf P_ipairAt pre_ipairAt g_ipairAt))
noncomputable def QF18 : FuncId → Bool := qadd QF17 125
theorem G18 : Good Try.prog tt S18 QF18 := G17.addQ c_ipairAt ⟨Try.f125, by kernel_rfl, by kernel_rfl, by kernel_rfl⟩ (fun _ => rfl)

/-! 142 slices.Insert[[]loop.example/g00244/impl.Pair,loop.example/g00244/impl.Pair] -/
section
open Go.Proofs Go.Lib
theorem iT0 : ∀ w, (isAgg 0).run Try.prog w = .ok false w := fun w => by kernel_rfl
theorem iT3 : ∀ w, (isAgg 3).run Try.prog w = .ok false w := fun w => by kernel_rfl
theorem iZ118 : ∀ w, (Go.sizeOf 118).run Try.prog w = .ok 2 w := fun w => by kernel_rfl
theorem iZ43 : ∀ w, (Go.sizeOf 43).run Try.prog w = .ok 1 w := fun w => by kernel_rfl
theorem iV43 : ∀ w, (zeroValue 43).run Try.prog w = .ok (Value.slice none 0 0) w := fun w => by kernel_rfl
theorem iI118 : (Try.prog.info? 118).map (fun i => (i.zero, i.size, i.bytes)) = some (some (Value.agg #[.string ⟨#[]⟩, .string ⟨#[]⟩]), 2, 32) := by kernel_rfl
theorem ntmps142 : Try.f142.ntmps = 95 := by kernel_rfl

set_option maxHeartbeats 4000000 in
set_option maxRecDepth 100000 in
/-- Insert: there is room, in the middle: in place. -/
theorem ins_shift (b n c i vb voff m vc : Nat) (cs vs : List Value) (w : World) (hi : i < n) (hm : 0 < m) (hroom : n + m ≤ c) (hc63 : c ≤ 9223372036854775807) (hvb : vb ≠ b)
    (hcl : cs.length = n * 2) (hvl : vs.length = m * 2)
    (hcs : ∀ j v, cs[j]? = some v → w.cell? ⟨b, j, none⟩ = some v) (hsp : ∀ j, j < (n + m) * 2 → (w.cell? ⟨b, j, none⟩).isSome = true) (hfz : ∀ j, j < (n + m) * 2 → w.frozen? ⟨b, j, none⟩ = false)
    (hvs : ∀ j v, vs[j]? = some v → w.cell? ⟨vb, voff + j, none⟩ = some v) (h1c : ∀ v ∈ cs, v.oneCell' = true) (h1v : ∀ v ∈ vs, v.oneCell' = true)
    (tA tB : TypeId) (kA kB : Nat) (hsa : w.shape? vb = some (tA, kA)) (hsb : w.shape? b = some (tB, kB)) (hkB : kB ≠ 0) (hfa : w.frozen? ⟨vb, voff, none⟩ = false) (hfe : w.frozen? ⟨vb, kA, none⟩ = false) :
    Calls Try.prog 142 #[.slice (some ⟨b, 0, none⟩) n c, .int .i64 i, .slice (some ⟨vb, voff, none⟩) m vc] w fun e w' =>
      e = .returned (.slice (some ⟨b, 0, none⟩) (n + m) c) ∧ w' = (w.drew.setCells b ((i + m) * 2) (cs.drop (i * 2))).setCells b (i * 2) vs := by
  have t0 := Try.underlying0; have t3 := Try.underlying3; have t4 := Try.underlying4; have t43 := Try.underlying43
  have a0 := iT0; have a3 := iT3; have z118 := iZ118; have z43 := iZ43; have v43 := iV43
  have u0 := run_underlying t0; have u3 := run_underlying t3; have u4 := run_underlying t4; have u43 := run_underlying t43
  have hz1 : ¬ ((m : Int) = 0) := by omega
  have hz2 : ¬ ((i : Int) = (n : Int)) := by omega
  have hsz : (Try.prog.info? 118).map (·.size) = some 2 := by
    obtain ⟨i0, hi0, h0, h1, h2⟩ := info_parts iI118
    rw [hi0]; simp [h1]
  have hov : ∀ lb cb, (callFunc 161 #[.slice (some ⟨vb, voff, none⟩) m vc, .slice (some ⟨b, (i + m) * 2, none⟩) lb cb]).run Try.prog w = .ok (.value (.bool false)) w := fun lb cb => by
    rw [run_callFunc_extern Try.func161 (by kernel_rfl) (by kernel_rfl) (by kernel_rfl) (e := Extern.SlicesOverlaps.overlaps #[43, 43] #[4]) (by kernel_rfl),
      Lib.run_overlaps_apart w 43 4 118 t43 2 iZ118 ⟨vb, voff, none⟩ ⟨b, (i + m) * 2, none⟩ m vc lb cb hvb tA tB kA kB hsa hsb hkB hfa hfe]
    rfl
  have hdl : (cs.drop (i * 2)).length = (n - i) * 2 := by rw [List.length_drop, hcl]; omega
  have mixed : Try.prog.follows .mixedOrders = true := by kernel_rfl
  have hw1 : IntKind.i64.wrap ((i : Int) + (m : Int)) = (i : Int) + (m : Int) := by rw [IntKind.wrap_i64]; omega
  have hb1 : (0 : Int) ≤ (i : Int) + (m : Int) := by omega
  have hin : i ≤ n := by omega
  have htn : ((i : Int) + (m : Int)).toNat = i + m := by omega
  have hb2 : ¬ (c = i + m) := by omega
  have hb3 : (i : Int) ≤ (n : Int) + (m : Int) := by omega
  have hb4 : ¬ (c = i) := by omega
  have hcp1 : ∀ ty dc sc, (Builtin.copy_ #[43, 43] ty #[.slice (some ⟨b, (i + m) * 2, none⟩) (n + m - (i + m)) dc, .slice (some ⟨b, i * 2, none⟩) (n + m - i) sc]).run Try.prog w.drew = .ok (goInt ((n - i : Nat) : Int)) (w.drew.setCells b ((i + m) * 2) (cs.drop (i * 2))) := fun ty dc sc => by
    have hmin : Nat.min (n + m - i) (n + m - (i + m)) = n - i := by simp only [Nat.min_def]; split <;> omega
    have := run_copy_k w.drew 43 43 ty 118 2 b ((i + m) * 2) (n + m - (i + m)) dc ⟨b, i * 2, none⟩ (n + m - i) sc (cs.drop (i * 2)) t43 hsz (by rw [hdl, hmin])
      (fun j v hj => by rw [Addr.add_lit]; exact hcs (i * 2 + j) v (by rwa [List.getElem?_drop] at hj))
      (fun j hj => hsp _ (by rw [hdl] at hj; omega)) (fun j hj => hfz _ (by rw [hdl] at hj; omega)) (fun v hv => h1c v (List.mem_of_mem_drop hv))
    rw [hmin] at this
    exact this
  obtain ⟨W1, hW1⟩ : ∃ W1, W1 = w.drew.setCells b ((i + m) * 2) (cs.drop (i * 2)) := ⟨_, rfl⟩
  have hsp1 : ∀ k, k < (n + m) * 2 → (W1.cell? ⟨b, k, none⟩).isSome = true := fun k hk => by
    rw [hW1]
    exact isSome_setCells b (cs.drop (i * 2)) ((i + m) * 2) w.drew (fun j hj => hsp ((i + m) * 2 + j) (by rw [hdl] at hj; omega)) k (hsp k hk)
  have hcp2 : ∀ (W : World), (∀ x, W.cell? x = W1.cell? x) → (∀ x, W.frozen? x = W1.frozen? x) → ∀ ty dc, (Builtin.copy_ #[43, 43] ty #[.slice (some ⟨b, i * 2, none⟩) (n + m - i) dc, .slice (some ⟨vb, voff, none⟩) m vc]).run Try.prog W = .ok (goInt m) (W.setCells b (i * 2) vs) := fun W hWc hWf ty dc => by
    have hmin : Nat.min m (n + m - i) = m := by simp only [Nat.min_def]; split <;> omega
    have := run_copy_k W 43 43 ty 118 2 b (i * 2) (n + m - i) dc ⟨vb, voff, none⟩ m vc vs t43 hsz (by rw [hvl, hmin])
      (fun j v hj => by
        rw [Addr.add_lit, hWc, hW1, World.cell?_setCells_out b _ _ _ _ (fun h _ => absurd h hvb)]
        exact hvs j v hj)
      (fun j hj => by rw [hWc]; exact hsp1 _ (by omega)) (fun j hj => by rw [hWf, hW1, World.frozen?_setCells]; exact hfz _ (by omega)) h1v
    rw [hmin] at this
    exact this
  rw [← hW1] at hcp1
  go_enter Try.func142, ntmps142
  go_wp2_with (simp only [hov])
  go_region_law_o (refine step_copy_runI rfl _ _ 43 43 rfl _ _ (by simp [Act.eval, Act.put]) (by simp [Act.eval, Act.put]) (hcp1 _ _ _) ?_)
  go_wp2_with (at_builtin; refine wpList_copy_runI _ rfl _ _ 43 43 rfl _ _ rfl rfl (hcp2 _ (fun _ => rfl) (fun _ => rfl) _ _) ?_)
  go_ret
  first | exact ⟨rfl, rfl⟩ | exact ⟨rfl, by rw [hW1]⟩
set_option maxHeartbeats 4000000 in
set_option maxRecDepth 100000 in
/-- Insert: at the end, there is room. -/
theorem ins_end_room (b n c vb voff m vc : Nat) (vs : List Value) (w : World) (hm : 0 < m) (hroom : n + m ≤ c) (hc63 : c ≤ 9223372036854775807)
    (hvl : vs.length = m * 2) (hsp : ∀ j, j < m * 2 → (w.cell? ⟨b, n * 2 + j, none⟩).isSome = true) (hfz : ∀ j, j < m * 2 → w.frozen? ⟨b, n * 2 + j, none⟩ = false)
    (hvs : ∀ j v, vs[j]? = some v → w.cell? ⟨vb, voff + j, none⟩ = some v) (h1v : ∀ v ∈ vs, v.oneCell' = true) :
    Calls Try.prog 142 #[.slice (some ⟨b, 0, none⟩) n c, .int .i64 n, .slice (some ⟨vb, voff, none⟩) m vc] w fun e w' =>
      e = .returned (.slice (some ⟨b, 0, none⟩) (n + m) c) ∧ w' = w.setCells b (n * 2) vs := by
  have t0 := Try.underlying0; have t3 := Try.underlying3; have t4 := Try.underlying4; have t43 := Try.underlying43
  have a0 := iT0; have a3 := iT3; have z118 := iZ118; have z43 := iZ43; have v43 := iV43
  have u0 := run_underlying t0; have u3 := run_underlying t3; have u4 := run_underlying t4; have u43 := run_underlying t43
  have mixed : Try.prog.follows .mixedOrders = true := by kernel_rfl
  obtain ⟨i0, hi0, hz0, hzs, hzb⟩ := info_parts iI118
  have hz1 : ¬ ((m : Int) = 0) := by omega
  have hsrc : Src Try.prog i0.size 43 (.slice (some ⟨vb, voff, none⟩) m vc) m vs w := Src.ofSlice w t43 ⟨vb, voff, none⟩ m vc vs (by rw [hzs]; exact hvl) (fun j u hj => by rw [Addr.add_lit]; exact hvs j u hj) h1v
  have h1 : ∀ j, j < vs.length → (w.cell? ⟨b, 0 + n * i0.size + j, none⟩).isSome = true := fun j hj => by rw [hzs, Nat.zero_add]; exact hsp j (by omega)
  have h2 : ∀ j, j < vs.length → w.frozen? ⟨b, 0 + n * i0.size + j, none⟩ = false := fun j hj => by rw [hzs, Nat.zero_add]; exact hfz j (by omega)
  have hoff : 0 + n * i0.size = n * 2 := by rw [hzs]; omega
  go_enter Try.func142, ntmps142
  go_wp2_with (at_builtin; refine wpList_append_room_src _ rfl _ _ 43 43 rfl 118 i0 t43 hi0 b 0 n c rfl _ rfl m vs hsrc hroom h1 h2 ?_)
  go_ret
  first | exact ⟨rfl, rfl⟩ | exact ⟨rfl, by rw [hoff]⟩ | exact ⟨rfl, by rw [← hoff]⟩ | exact ⟨rfl, by simp [hzs]⟩

set_option maxHeartbeats 4000000 in
set_option maxRecDepth 100000 in
/-- Insert: at the end, there is no room: a new row. -/
theorem ins_end_grow (base : Option Addr) (n c vb voff m vc : Nat) (cs vs : List Value) (w : World) (hm : 0 < m) (hnc : n ≤ c) (hroom : c < n + m) (hbig : (n + m) * 32 ≤ 140737488355328)
    (hcl : cs.length = n * 2) (hvl : vs.length = m * 2) (hnil : base = none → n = 0)
    (hcs : ∀ a, base = some a → ∀ j v, cs[j]? = some v → w.cell? (a.add j) = some v)
    (hvs : ∀ j v, vs[j]? = some v → w.cell? ⟨vb, voff + j, none⟩ = some v) (h1v : ∀ v ∈ vs, v.oneCell' = true) :
    Calls Try.prog 142 #[.slice base n c, .int .i64 n, .slice (some ⟨vb, voff, none⟩) m vc] w fun e w' =>
      e = .returned (.slice (some ⟨w.heap.size, 0, none⟩) (n + m) (grownCap w (n + m) c 118)) ∧
      w' = w.drew.alloc (.cells ((cs ++ vs).toArray ++ Builtin.zeroCells #[Value.string ⟨#[]⟩, Value.string ⟨#[]⟩] (grownCap w (n + m) c 118 - (n + m))) 118) := by
  have t0 := Try.underlying0; have t3 := Try.underlying3; have t4 := Try.underlying4; have t43 := Try.underlying43
  have a0 := iT0; have a3 := iT3; have z118 := iZ118; have z43 := iZ43; have v43 := iV43
  have u0 := run_underlying t0; have u3 := run_underlying t3; have u4 := run_underlying t4; have u43 := run_underlying t43
  have mixed : Try.prog.follows .mixedOrders = true := by kernel_rfl
  obtain ⟨i0, hi0, hz0, hzs, hzb⟩ := info_parts iI118
  have hz1 : ¬ ((m : Int) = 0) := by omega
  have hsrc : Src Try.prog i0.size 43 (.slice (some ⟨vb, voff, none⟩) m vc) m vs w := Src.ofSlice w t43 ⟨vb, voff, none⟩ m vc vs (by rw [hzs]; exact hvl) (fun j u hj => by rw [Addr.add_lit]; exact hvs j u hj) h1v
  have hold : (Builtin.firstCells i0.size n (.slice base n c)).run Try.prog w.drew = .ok cs.toArray w.drew := by
    rw [hzs]
    cases base with
    | none =>
      have h0 := hnil rfl
      subst h0
      have hc0 : cs = [] := List.length_eq_zero_iff.1 (by omega)
      rw [hc0]
      exact run_firstCells_none w.drew 2 0 0 c
    | some a => exact run_firstCells_some w.drew 2 n a n c cs (by omega) (fun j v hj => hcs a rfl j v hj)
  have hrun : ∀ ty, (Builtin.append_ #[43, 43] ty #[.slice base n c, .slice (some ⟨vb, voff, none⟩) m vc]).run Try.prog w = _ := fun ty =>
    run_append_grow_src w 43 43 ty 118 i0 _ t43 hi0 hz0 base n c cs hold _ m vs hsrc hroom (by omega) (by rw [hzb]; exact growslice_fits hroom hbig)
  go_enter Try.func142, ntmps142
  cases base with
  | none =>
    have h0 := hnil rfl
    subst h0
    go_wp2_with (at_builtin; refine Lib.wpList_append_run _ rfl _ _ _ _ rfl _ _ rfl rfl _ _ (hrun _) ?_)
    go_ret
    exact ⟨rfl, rfl⟩
  | some a =>
    obtain ⟨ab, ao, asp⟩ := a
    go_wp2_with (at_builtin; refine Lib.wpList_append_run _ rfl _ _ _ _ rfl _ _ rfl rfl _ _ (hrun _) ?_)
    all_goals (go_ret; exact ⟨rfl, rfl⟩)
set_option maxHeartbeats 4000000 in
set_option maxRecDepth 100000 in
/-- Insert: in the middle, there is no room: a new row. -/
theorem ins_grow (b n c i vb voff m vc : Nat) (cs vs : List Value) (w : World) (hi : i < n) (hm : 0 < m) (hnc : n ≤ c) (hroom : c < n + m) (hbig : (n + m) * 32 ≤ 140737488355328)
    (hcl : cs.length = n * 2) (hvl : vs.length = m * 2)
    (hcs : ∀ j v, cs[j]? = some v → w.cell? ⟨b, j, none⟩ = some v)
    (hvs : ∀ j v, vs[j]? = some v → w.cell? ⟨vb, voff + j, none⟩ = some v) (h1c : ∀ v ∈ cs, v.oneCell' = true) (h1v : ∀ v ∈ vs, v.oneCell' = true) :
    Calls Try.prog 142 #[.slice (some ⟨b, 0, none⟩) n c, .int .i64 i, .slice (some ⟨vb, voff, none⟩) m vc] w fun e w' =>
      e = .returned (.slice (some ⟨w.heap.size, 0, none⟩) (n + m) (grownCap w (n + m) c 118)) ∧
      w' = (((w.alloc (.cells ((cs.take (i * 2)).toArray ++ Builtin.zeroCells #[Value.string ⟨#[]⟩, Value.string ⟨#[]⟩] (n + m - i) ++ Builtin.zeroCells #[Value.string ⟨#[]⟩, Value.string ⟨#[]⟩] (grownCap w (n + m) c 118 - (n + m))) 118)).drew.setCells w.heap.size (i * 2) vs).drew).setCells w.heap.size ((i + m) * 2) (cs.drop (i * 2)) := by
  have t0 := Try.underlying0; have t3 := Try.underlying3; have t4 := Try.underlying4; have t43 := Try.underlying43
  have a0 := iT0; have a3 := iT3; have z118 := iZ118; have z43 := iZ43; have v43 := iV43
  have u0 := run_underlying t0; have u3 := run_underlying t3; have u4 := run_underlying t4; have u43 := run_underlying t43
  have mixed : Try.prog.follows .mixedOrders = true := by kernel_rfl
  obtain ⟨i0, hi0, hz0, hzs, hzb⟩ := info_parts iI118
  have hz1 : ¬ ((m : Int) = 0) := by omega
  have hz2 : ¬ ((i : Int) = (n : Int)) := by omega
  have hz3 : (c : Int) < (n : Int) + (m : Int) := by omega
  have hsz : (Try.prog.info? 118).map (·.size) = some 2 := by rw [hi0]; simp [hzs]
  have hbw : b < w.heap.size := block_lt_of_cell (hcs 0 _ (List.getElem?_eq_getElem (by omega)))
  have hvw : vb < w.heap.size := block_lt_of_cell (hvs 0 _ (List.getElem?_eq_getElem (by omega)))
  have hkk : (n : Int) + (m : Int) - (i : Int) = ((n + m - i : Nat) : Int) := by omega
  have hik : i + (n + m - i) = n + m := by omega
  have hold : (Builtin.firstCells i0.size i (.slice (some ⟨b, 0, none⟩) i c)).run Try.prog w.drew = .ok (cs.take (i * 2)).toArray w.drew := by
    rw [hzs]
    exact run_firstCells_some w.drew 2 i ⟨b, 0, none⟩ i c (cs.take (i * 2)) (by rw [List.length_take]; omega) (fun j v hj => by
      rw [Addr.add_lit, Nat.zero_add]
      rw [List.getElem?_take] at hj
      split at hj
      · exact hcs j v hj
      · cases hj)
  have hrz : ∀ ty, (Builtin.append_ #[43, 3] ty #[.slice (some ⟨b, 0, none⟩) i c, .int .i64 ((n : Int) + (m : Int) - (i : Int))]).run Try.prog w =
      .ok (.slice (some ⟨w.heap.size, 0, none⟩) (n + m) (grownCap w (n + m) c 118)) (w.drew.alloc (.cells ((cs.take (i * 2)).toArray ++ Builtin.zeroCells #[Value.string ⟨#[]⟩, Value.string ⟨#[]⟩] (n + m - i) ++ Builtin.zeroCells #[Value.string ⟨#[]⟩, Value.string ⟨#[]⟩] (grownCap w (n + m) c 118 - (n + m))) 118)) := fun ty => by
    have h := Lib.run_append_grow_zeros w 43 3 ty 118 i0 _ .i64 .i64 t43 t3 hi0 hz0 (some ⟨b, 0, none⟩) i c (cs.take (i * 2)) hold (n + m - i) (by omega) (by omega) (by omega) (by omega) (by rw [hzb]; omega) (by rw [hzb, hik]; exact growslice_fits hroom hbig)
    rw [hik] at h
    rw [hkk]
    exact h
  obtain ⟨G, hG⟩ : ∃ G, G = grownCap w (n + m) c 118 := ⟨_, rfl⟩
  obtain ⟨ROW, hROW⟩ : ∃ ROW : Array Value, ROW = (cs.take (i * 2)).toArray ++ Builtin.zeroCells #[Value.string ⟨#[]⟩, Value.string ⟨#[]⟩] (n + m - i) ++ Builtin.zeroCells #[Value.string ⟨#[]⟩, Value.string ⟨#[]⟩] (G - (n + m)) := ⟨_, rfl⟩
  rw [← hG] at hrz ⊢
  rw [← hROW] at hrz ⊢
  have hRl : (n + m) * 2 ≤ ROW.size := by
    rw [hROW]
    simp [Builtin.zeroCells]
    omega
  obtain ⟨W1, hW1⟩ : ∃ W1, W1 = w.drew.alloc (.cells ROW 118) := ⟨_, rfl⟩
  rw [← hW1] at hrz
  have hN : ∀ j, j < (n + m) * 2 → (W1.cell? ⟨w.heap.size, j, none⟩).isSome = true := fun j hj => by
    rw [hW1, World.cell?_alloc_at (w := w.drew) ROW _ w.heap.size j rfl, Array.getElem?_eq_getElem (by omega)]; rfl
  have hNf : ∀ j, W1.frozen? ⟨w.heap.size, j, none⟩ = false := fun j => by rw [hW1]; exact World.frozen?_alloc_at (w := w.drew) ROW _ w.heap.size j rfl
  have hOb : ∀ j v, w.cell? ⟨b, j, none⟩ = some v → W1.cell? ⟨b, j, none⟩ = some v := fun j v h => by rw [hW1, World.cell?_alloc_past (w := w.drew) _ b j hbw]; exact h
  have hOv : ∀ j v, w.cell? ⟨vb, j, none⟩ = some v → W1.cell? ⟨vb, j, none⟩ = some v := fun j v h => by rw [hW1, World.cell?_alloc_past (w := w.drew) _ vb j hvw]; exact h
  have hcpA : ∀ (W : World), (∀ x, W.cell? x = W1.cell? x) → (∀ x, W.frozen? x = W1.frozen? x) → ∀ ty dc, (Builtin.copy_ #[43, 43] ty #[.slice (some ⟨w.heap.size, i * 2, none⟩) (n + m - i) dc, .slice (some ⟨vb, voff, none⟩) m vc]).run Try.prog W = .ok (goInt m) (W.setCells w.heap.size (i * 2) vs) := fun W hWc hWf ty dc => by
    have hmin : Nat.min m (n + m - i) = m := by simp only [Nat.min_def]; split <;> omega
    have := run_copy_k W 43 43 ty 118 2 w.heap.size (i * 2) (n + m - i) dc ⟨vb, voff, none⟩ m vc vs t43 hsz (by rw [hvl, hmin])
      (fun j v hj => by rw [Addr.add_lit, hWc]; exact hOv _ v (hvs j v hj))
      (fun j hj => by rw [hWc]; exact hN _ (by omega)) (fun j hj => by rw [hWf]; exact hNf _) h1v
    rw [hmin] at this
    exact this
  have hGn : n + m ≤ G := by rw [hG]; exact grownCap_ge w _ _ _
  have hG63 : G ≤ 9223372036854775807 := by
    have := grownCap_le_maxLen w (n + m) c 118 (by unfold maxLen; omega)
    rw [← hG] at this
    unfold maxLen at this
    omega
  have hGi : ¬ (G = i) := by omega
  have hGim : ¬ (G = i + m) := by omega
  have hci : ¬ (c = i) := by omega
  have hbN : b ≠ w.heap.size := by omega
  have hdl : (cs.drop (i * 2)).length = (n - i) * 2 := by rw [List.length_drop, hcl]; omega
  have hcpB : ∀ (W : World), (∀ x, W.cell? x = (W1.setCells w.heap.size (i * 2) vs).cell? x) → (∀ x, W.frozen? x = (W1.setCells w.heap.size (i * 2) vs).frozen? x) → ∀ ty dc sc, (Builtin.copy_ #[43, 43] ty #[.slice (some ⟨w.heap.size, (i + m) * 2, none⟩) (n + m - (i + m)) dc, .slice (some ⟨b, i * 2, none⟩) (n - i) sc]).run Try.prog W = .ok (goInt ((n - i : Nat) : Int)) (W.setCells w.heap.size ((i + m) * 2) (cs.drop (i * 2))) := fun W hWc hWf ty dc sc => by
    have hmin : Nat.min (n - i) (n + m - (i + m)) = n - i := by simp only [Nat.min_def]; split <;> omega
    have := run_copy_k W 43 43 ty 118 2 w.heap.size ((i + m) * 2) (n + m - (i + m)) dc ⟨b, i * 2, none⟩ (n - i) sc (cs.drop (i * 2)) t43 hsz (by rw [hdl, hmin])
      (fun j v hj => by
        rw [Addr.add_lit, hWc, World.cell?_setCells_out _ _ _ _ _ (fun h _ => absurd h hbN)]
        exact hOb _ v (hcs (i * 2 + j) v (by rwa [List.getElem?_drop] at hj)))
      (fun j hj => by rw [hWc]; exact isSome_setCells w.heap.size vs (i * 2) W1 (fun t ht => hN (i * 2 + t) (by omega)) _ (hN _ (by rw [hdl] at hj; omega)))
      (fun j hj => by rw [hWf, World.frozen?_setCells]; exact hNf _) (fun v hv => h1c v (List.mem_of_mem_drop hv))
    rw [hmin] at this
    exact this
  subst hW1
  have hE1 : ∀ x, ((w.alloc (.cells ROW 118)).drew).cell? x = (w.drew.alloc (.cells ROW 118)).cell? x := fun x => rfl
  have hE2 : ∀ x, ((w.alloc (.cells ROW 118)).drew).frozen? x = (w.drew.alloc (.cells ROW 118)).frozen? x := fun x => rfl
  have hF1 : ∀ x, (((w.alloc (.cells ROW 118)).drew.setCells w.heap.size (i * 2) vs).drew).cell? x = ((w.drew.alloc (.cells ROW 118)).setCells w.heap.size (i * 2) vs).cell? x := fun x => rfl
  have hF2 : ∀ x, (((w.alloc (.cells ROW 118)).drew.setCells w.heap.size (i * 2) vs).drew).frozen? x = ((w.drew.alloc (.cells ROW 118)).setCells w.heap.size (i * 2) vs).frozen? x := fun x => rfl
  have hw1 : IntKind.i64.wrap ((i : Int) + (m : Int)) = (i : Int) + (m : Int) := by rw [IntKind.wrap_i64]; omega
  have hb1 : (0 : Int) ≤ (i : Int) + (m : Int) := by omega
  have hin : i ≤ n := by omega
  have htn : ((i : Int) + (m : Int)).toNat = i + m := by omega
  have hb3 : (i : Int) ≤ (n : Int) := by omega
  clear hkk hik hold hROW hG hRl
  go_enter Try.func142, ntmps142
  go_wp2_with (first
    | (at_builtin; refine Lib.wpList_append_run _ rfl _ _ _ _ rfl _ _ rfl rfl _ _ (hrz _) ?_)
    | (at_builtin; refine wpList_copy_runI _ rfl _ _ 43 43 rfl _ _ rfl rfl (hcpA _ hE1 hE2 _ _) ?_)
    | (at_builtin; refine wpList_copy_runI _ rfl _ _ 43 43 rfl _ _ rfl rfl (hcpB _ (fun _ => rfl) (fun _ => rfl) _ _ _) ?_))
  go_region_law_o (refine step_copy_runI rfl _ _ 43 43 rfl (.slice (some ⟨w.heap.size, (i + m) * 2, none⟩) (n + m - (i + m)) (G - (i + m))) (.slice (some ⟨b, i * 2, none⟩) (n - i) (c - i)) (by simp [Act.eval, Act.put]) (by simp [Act.eval, Act.put]) (hcpB _ hF1 hF2 3 (G - (i + m)) (c - i)) ?_)
  go_wp2
  go_ret
  exact ⟨rfl, rfl⟩
end
theorem c_insP : MContract Try.prog 142 (insSum 118) := MContract.insPair (F := 142) (E := 118)
  (fun b n c i vb vc cs vs w h1 h2 h3 h4 h5 h6 h7 h8 h9 h10 h11 h12 tA tB kA kB g1 g2 g3 g4 g5 => ins_shift b n c i vb 0 1 vc cs vs w h1 (by decide) h2 h3 h4 h5 h6 h7 h8 h9 h10 h11 h12 tA tB kA kB g1 g2 g3 g4 g5)
  (fun b n c vb vc vs w h1 h2 h3 h4 h5 h6 h7 => ins_end_room b n c vb 0 1 vc vs w (by decide) h1 h2 h3 h4 h5 h6 h7)
  (fun base n c vb vc cs vs w h1 h2 h3 h4 h5 h6 h7 h8 h9 => (ins_end_grow base n c vb 0 1 vc cs vs w (by decide) h1 h2 h3 h4 h5 h6 h7 h8 h9).mono (fun _ _ h => ⟨_, grownCap_ge w (n + 1) c 118, grownCap_le_maxLen w (n + 1) c 118 (by simp only [maxLen]; omega), h.1, h.2⟩))
  (fun b n c i vb vc cs vs w h1 h2 h3 h4 h5 h6 h7 h8 h9 h10 => (ins_grow b n c i vb 0 1 vc cs vs w h1 (by decide) h2 h3 h4 h5 h6 h7 h8 h9 h10).mono (fun _ _ h => ⟨_, grownCap_ge w (n + 1) c 118, grownCap_le_maxLen w (n + 1) c 118 (by simp only [maxLen]; omega), h.1, h.2⟩))
noncomputable def insP (l : List (ByteArray × ByteArray)) (i : Int) (y : List (ByteArray × ByteArray)) : List (ByteArray × ByteArray) := l.take i.toNat ++ (y ++ l.drop i.toNat)
noncomputable def q_insP (l : List (ByteArray × ByteArray)) (i : Int) (y : List (ByteArray × ByteArray)) : Bool := decide (0 ≤ i ∧ i ≤ ((l.length : Nat) : Int)) && decide ((l.length + 1) * 32 ≤ 140737488355328)
noncomputable def S19 : Tab := Tab.add S18 142 (win winIds (insSum 118))
noncomputable def QF19 : FuncId → Bool := QF18
theorem G19 : Good Try.prog tt S19 QF19 := G18.addM (c_insP.win winIds) (win_local _) ⟨Try.f142, by kernel_rfl, by kernel_rfl, by kernel_rfl⟩ (by kernel_rfl)

/-! 108 loop.example/g00244/impl.putKey -/
noncomputable abbrev SM_iputKey : SS := ⟨[.all 0 2, .t true .str, .t true .str], [.rows 118 true (.pair .str .str)]⟩
noncomputable abbrev S_iputKey_0 : SS := ⟨[.all 0 2, .t true .str, .t true .str, .junk, .junk, .junk, .junk, .junk, .t true (.int .i64), .junk, .junk, .junk, .junk, .junk, .junk, .junk, .junk, .junk, .junk, .junk, .junk, .junk, .junk, .junk, .junk, .junk, .junk, .junk, .junk, .junk, .junk, .junk, .junk, .junk, .junk, .junk, .junk, .junk, .junk, .junk, .junk, .junk], [.rows 118 true (.pair .str .str)]⟩
noncomputable abbrev E_iputKey_0_0 : SS := ⟨[.all 0 2, .t true .str, .t true .str, .junk, .junk, .junk, .junk, .junk, .t true (.int .i64), .junk, .junk, .junk, .junk, .junk, .junk, .junk, .junk, .junk, .junk, .junk, .junk, .junk, .junk, .junk, .junk, .junk, .junk, .junk, .junk, .junk, .junk, .junk, .junk, .junk, .junk, .junk, .junk, .junk, .junk, .junk, .junk, .junk], [.rows 118 true (.pair .str .str)]⟩
noncomputable def st_iputKey_0 (x1 : ByteArray) (x2 : ByteArray) (x8 : Int) (h0 : List (ByteArray × ByteArray)) : RT S_iputKey_0.den := (.br (decide (x8 < ((h0.length : Nat) : Int))) (.br (decide (0 ≤ x8 ∧ x8 < ((h0.length : Nat) : Int))) (.br (Op.bytesLess ((h0.getD x8.toNat ((⟨#[]⟩ : ByteArray), (⟨#[]⟩ : ByteArray))).1).toList x1.toList || (((h0.getD x8.toNat ((⟨#[]⟩ : ByteArray), (⟨#[]⟩ : ByteArray))).1).toList == x1.toList)) (.next (((), x1, x2, (), (), (), (), (), IntKind.wrap .i64 (x8 + (1 : Int)), (), (), (), (), (), (), (), (), (), (), (), (), (), (), (), (), (), (), (), (), (), (), (), (), (), (), (), (), (), (), (), (), (), ()), (h0, ()))) (.done (.exit 0) E_iputKey_0_0 (((), x1, x2, (), (), (), (), (), x8, (), (), (), (), (), (), (), (), (), (), (), (), (), (), (), (), (), (), (), (), (), (), (), (), (), (), (), (), (), (), (), (), (), ()), (h0, ())))) .fail) (.done (.exit 0) E_iputKey_0_0 (((), x1, x2, (), (), (), (), (), x8, (), (), (), (), (), (), (), (), (), (), (), (), (), (), (), (), (), (), (), (), (), (), (), (), (), (), (), (), (), (), (), (), (), ()), (h0, ()))))
noncomputable abbrev V_iputKey_0 := (ByteArray) × (ByteArray) × (Int) × (List (ByteArray × ByteArray))
noncomputable abbrev A_iputKey_0 := Nat × (ByteArray) × (ByteArray) × (Int) × (List (ByteArray × ByteArray))
noncomputable def fl_iputKey_0 : A_iputKey_0 := (99, ((⟨#[]⟩ : ByteArray) : ByteArray), ((⟨#[]⟩ : ByteArray) : ByteArray), ((0 : Int) : Int), ([] : List (ByteArray × ByteArray)))
noncomputable def ss_iputKey_0 (x1 : ByteArray) (x2 : ByteArray) (x8 : Int) (h0 : List (ByteArray × ByteArray)) : V_iputKey_0 ⊕ A_iputKey_0 := (cond (decide (x8 < ((h0.length : Nat) : Int))) (cond (decide (0 ≤ x8 ∧ x8 < ((h0.length : Nat) : Int))) (cond (Op.bytesLess ((h0.getD x8.toNat ((⟨#[]⟩ : ByteArray), (⟨#[]⟩ : ByteArray))).1).toList x1.toList || (((h0.getD x8.toNat ((⟨#[]⟩ : ByteArray), (⟨#[]⟩ : ByteArray))).1).toList == x1.toList)) (.inl (x1, x2, IntKind.wrap .i64 (x8 + (1 : Int)), h0)) (.inr (0, x1, x2, x8, h0))) (.inr fl_iputKey_0)) (.inr (0, x1, x2, x8, h0)))
noncomputable def it_iputKey_0 (x1 : ByteArray) (x2 : ByteArray) (x8 : Int) (h0 : List (ByteArray × ByteArray)) : A_iputKey_0 := itX (fun v : V_iputKey_0 => ss_iputKey_0 v.1 v.2.1 v.2.2.1 v.2.2.2) fl_iputKey_0 (x1, x2, x8, h0)
noncomputable def ct_iputKey_0 (a : A_iputKey_0) : CT := (.br (a.1 == 0) (.done (.exit 0) E_iputKey_0_0 (((), a.2.1, a.2.2.1, (), (), (), (), (), a.2.2.2.1, (), (), (), (), (), (), (), (), (), (), (), (), (), (), (), (), (), (), (), (), (), (), (), (), (), (), (), (), (), (), (), (), (), ()), (a.2.2.2.2, ()))) .fail)
noncomputable def T_iputKey_0 (x1 : ByteArray) (x2 : ByteArray) (x8 : Int) (h0 : List (ByteArray × ByteArray)) : CT := ct_iputKey_0 (it_iputKey_0 x1 x2 x8 h0)
noncomputable abbrev sp_iputKey_0 : S_iputKey_0.den → RT S_iputKey_0.den := fun d => st_iputKey_0 d.1.2.1 d.1.2.2.1 d.1.2.2.2.2.2.2.2.2.1 d.2.1
noncomputable abbrev pk_iputKey_0 (x1 : ByteArray) (x2 : ByteArray) (x8 : Int) (h0 : List (ByteArray × ByteArray)) : S_iputKey_0.den := (((), x1, x2, (), (), (), (), (), x8, (), (), (), (), (), (), (), (), (), (), (), (), (), (), (), (), (), (), (), (), (), (), (), (), (), (), (), (), (), (), (), (), (), ()), (h0, ()))
noncomputable def body_iputKey_0 : Code := ((loopsIn 0 (bodyOf Try.f108)).getD 0 (0, .skip)).2
theorem R_iputKey_0 (x1 : ByteArray) (x2 : ByteArray) (x8 : Int) (h0 : List (ByteArray × ByteArray)) : (T_iputKey_0 x1 x2 x8 h0).val (D := S_iputKey_0.den) = .fail ∨ Runs sp_iputKey_0 (pk_iputKey_0 x1 x2 x8 h0) (T_iputKey_0 x1 x2 x8 h0).val := Runs.ofIt (step := sp_iputKey_0) (fun v : V_iputKey_0 => pk_iputKey_0 v.1 v.2.1 v.2.2.1 v.2.2.2) (ct := ct_iputKey_0) rfl (fun v => ((relB (relB (relB rfl rfl) rfl) rfl) : (st_iputKey_0 v.1 v.2.1 v.2.2.1 v.2.2.2).val = relS (fun v : V_iputKey_0 => pk_iputKey_0 v.1 v.2.1 v.2.2.1 v.2.2.2) ct_iputKey_0 (ss_iputKey_0 v.1 v.2.1 v.2.2.1 v.2.2.2))) (fun a => ((cendB (cendD (by simp)) cendF) : CEnd _ (ct_iputKey_0 a))) (x1, x2, x8, h0)
theorem rd_iputKey_0 : ∀ d, execC Try.prog tt S19 QF19 (fun _ _ => none) 0 body_iputKey_0 (S_iputKey_0.st d 1 []) (fun e s' => some (e, S_iputKey_0.cutE (kepts [] [(0, [0, 1, 2, 8])]) e s')) = (sp_iputKey_0 d).opt 1 [] := by
  intro d
  kernel_rfl
noncomputable abbrev say_iputKey_0 : St → Option Tree := S_iputKey_0.say 1 [] [] (fun d => T_iputKey_0 d.1.2.1 d.1.2.2.1 d.1.2.2.2.2.2.2.2.2.1 d.2.1)
theorem lw_iputKey_0 : LoopWp Try.prog say_iputKey_0 body_iputKey_0 := SS.wp G19 (fun _ _ => none) (by rw [show loopsIn 0 body_iputKey_0 = [] by kernel_rfl]; simp) S_iputKey_0 1 [] (kepts [] [(0, [0, 1, 2, 8])]) [] sp_iputKey_0 rd_iputKey_0 _ (fun d => R_iputKey_0 d.1.2.1 d.1.2.2.1 d.1.2.2.2.2.2.2.2.2.1 d.2.1)
noncomputable def k1_iputKey (x1 : ByteArray) (x2 : ByteArray) (h0 : List (ByteArray × ByteArray)) := insP ((it_iputKey_0 x1 x2 (0 : Int) h0).2.2.2.2) ((it_iputKey_0 x1 x2 (0 : Int) h0).2.2.2.1) [(((it_iputKey_0 x1 x2 (0 : Int) h0).2.1), ((it_iputKey_0 x1 x2 (0 : Int) h0).2.2.1))]
noncomputable def iputKey (x1 : ByteArray) (x2 : ByteArray) (h0 : List (ByteArray × ByteArray)) : List (ByteArray × ByteArray) := (cond (decide ((ipairAt h0 x1) ≥ (0 : Int))) (h0.set ((ipairAt h0 x1).toNat) ((h0.getD ((ipairAt h0 x1).toNat) ((⟨#[]⟩ : ByteArray), (⟨#[]⟩ : ByteArray))).1, x2)) (k1_iputKey x1 x2 h0))
noncomputable abbrev e_iputKey (r : List (ByteArray × ByteArray)) : AV × List AObj × List Nat := ((.all 0 2), [(.rows 118 true (.pair .str .str) r)], [0])
noncomputable abbrev g_iputKey : SM_iputKey.den → AV × List AObj × List Nat := fun d => e_iputKey (iputKey d.1.2.1 d.1.2.2.1 d.2.1)
noncomputable def q_iputKey (x1 : ByteArray) (x2 : ByteArray) (h0 : List (ByteArray × ByteArray)) : Bool := (q_ipairAt h0 x1) && (cond (decide ((ipairAt h0 x1) ≥ (0 : Int))) (decide (0 ≤ (ipairAt h0 x1) ∧ (ipairAt h0 x1) < ((h0.length : Nat) : Int))) (((it_iputKey_0 x1 x2 (0 : Int) h0).1 == 0) && (q_insP ((it_iputKey_0 x1 x2 (0 : Int) h0).2.2.2.2) ((it_iputKey_0 x1 x2 (0 : Int) h0).2.2.2.1) [(((it_iputKey_0 x1 x2 (0 : Int) h0).2.1), ((it_iputKey_0 x1 x2 (0 : Int) h0).2.2.1))])))
noncomputable abbrev pre_iputKey : SM_iputKey.den → Bool := fun d => q_iputKey d.1.2.1 d.1.2.2.1 d.2.1
theorem runA_iputKey (x1 : ByteArray) (x2 : ByteArray) (h0 : List (ByteArray × ByteArray)) (hp : ((q_ipairAt h0 x1) && (cond (decide ((ipairAt h0 x1) ≥ (0 : Int))) (decide (0 ≤ (ipairAt h0 x1) ∧ (ipairAt h0 x1) < ((h0.length : Nat) : Int))) (((it_iputKey_0 x1 x2 (0 : Int) h0).1 == 0) && (q_insP ((it_iputKey_0 x1 x2 (0 : Int) h0).2.2.2.2) ((it_iputKey_0 x1 x2 (0 : Int) h0).2.2.2.1) [(((it_iputKey_0 x1 x2 (0 : Int) h0).2.1), ((it_iputKey_0 x1 x2 (0 : Int) h0).2.2.1))])))) = true) : runE false Try.prog tt S19 QF19 (fun b => match b with | 0 => say_iputKey_0 | _ => fun _ => none) Try.f108 (shsMk SM_iputKey.sl ((((), x1, x2, ()), (h0, ())) : SM_iputKey.den).1) (ohsMk SM_iputKey.hp ((((), x1, x2, ()), (h0, ())) : SM_iputKey.den).2) [] [0] [] = some (g_iputKey (((), x1, x2, ()), (h0, ()))) := by
  refine Eq.trans (b := (cond (q_ipairAt h0 x1) (cond (decide ((ipairAt h0 x1) ≥ (0 : Int))) (cond (decide (0 ≤ (ipairAt h0 x1) ∧ (ipairAt h0 x1) < ((h0.length : Nat) : Int))) (some (e_iputKey (h0.set ((ipairAt h0 x1).toNat) ((h0.getD ((ipairAt h0 x1).toNat) ((⟨#[]⟩ : ByteArray), (⟨#[]⟩ : ByteArray))).1, x2)))) none) (cond ((it_iputKey_0 x1 x2 (0 : Int) h0).1 == 0) (cond (q_insP ((it_iputKey_0 x1 x2 (0 : Int) h0).2.2.2.2) ((it_iputKey_0 x1 x2 (0 : Int) h0).2.2.2.1) [(((it_iputKey_0 x1 x2 (0 : Int) h0).2.1), ((it_iputKey_0 x1 x2 (0 : Int) h0).2.2.1))]) (some (e_iputKey (k1_iputKey x1 x2 h0))) none) none)) none)) (by kernel_rfl) ?_
  exact (cndT (andL hp) (fun _h => (fun hp => (cndQ (F := fun r => some (e_iputKey r)) hp (fun hp => (cndT hp (fun _h => rfl))) (fun hp => (cndT (andL hp) (fun _h => (fun hp => (cndT hp (fun _h => rfl))) (andR hp)))))) (andR hp)))
theorem run_iputKey : ∀ d : SM_iputKey.den, pre_iputKey d = true → runE false Try.prog tt S19 QF19 (fun b => match b with | 0 => say_iputKey_0 | _ => fun _ => none) Try.f108 (shsMk SM_iputKey.sl (d : SM_iputKey.den).1) (ohsMk SM_iputKey.hp (d : SM_iputKey.den).2) [] [0] [] = some (g_iputKey d) := fun d hp => runA_iputKey d.1.2.1 d.1.2.2.1 d.2.1 hp
theorem c_iputKey : MContract Try.prog 108 (win winIds (msum SM_iputKey pre_iputKey g_iputKey)) := (MContract.of_dataE false [] [0] []  G19 (fn := Try.f108) (by kernel_rfl) (L := fun b => match b with | 0 => say_iputKey_0 | _ => fun _ => none) (by rw [show loopsIn 0 (bodyOf Try.f108) = [(0, body_iputKey_0)] by kernel_rfl]; intro p hp; simp only [List.mem_singleton] at hp; subst hp; exact lw_iputKey_0) SM_iputKey pre_iputKey g_iputKey run_iputKey).win winIds
noncomputable def S20 : Tab := Tab.add S19 108 (win winIds (msum SM_iputKey pre_iputKey g_iputKey))
noncomputable def QF20 : FuncId → Bool := QF19
theorem G20 : Good Try.prog tt S20 QF20 := G19.addM c_iputKey (win_local _) ⟨Try.f108, by kernel_rfl, by kernel_rfl, by kernel_rfl⟩ (by kernel_rfl)

/-! 144 loop.example/g00244/impl.DelKey$1 -/
noncomputable abbrev SM_iDelKey_1 : SS := ⟨[.agg [.t true .str, .t true .str], .ptr 0 0 1 0], [.box [.t true .str]]⟩
noncomputable def iDelKey_1 (x0_0 : ByteArray) (x0_1 : ByteArray) (h0_0 : ByteArray) : Bool := (x0_0.toList == h0_0.toList)
noncomputable abbrev e_iDelKey_1 (h0_0 : ByteArray) (r : Bool) : AV × List AObj × List Nat := ((.t true .bool r), [(.box [(.t true .str h0_0)])], [])
noncomputable abbrev g_iDelKey_1 : SM_iDelKey_1.den → AV × List AObj × List Nat := fun d => e_iDelKey_1 d.2.1.1 (iDelKey_1 d.1.1.1 d.1.1.2.1 d.2.1.1)
noncomputable abbrev pre_iDelKey_1 : SM_iDelKey_1.den → Bool := fun d => true
theorem runA_iDelKey_1 (x0_0 : ByteArray) (x0_1 : ByteArray) (h0_0 : ByteArray) : runM Try.prog tt S20 QF20 (fun _ _ => none) Try.f144 (shsMk SM_iDelKey_1.sl ((((x0_0, x0_1, ()), (), ()), ((h0_0, ()), ())) : SM_iDelKey_1.den).1) (ohsMk SM_iDelKey_1.hp ((((x0_0, x0_1, ()), (), ()), ((h0_0, ()), ())) : SM_iDelKey_1.den).2) = some (g_iDelKey_1 (((x0_0, x0_1, ()), (), ()), ((h0_0, ()), ()))) := by
  kernel_rfl
theorem run_iDelKey_1 : ∀ d : SM_iDelKey_1.den, pre_iDelKey_1 d = true → runM Try.prog tt S20 QF20 (fun _ _ => none) Try.f144 (shsMk SM_iDelKey_1.sl (d : SM_iDelKey_1.den).1) (ohsMk SM_iDelKey_1.hp (d : SM_iDelKey_1.den).2) = some (g_iDelKey_1 d) := fun d hp => runA_iDelKey_1 d.1.1.1 d.1.1.2.1 d.2.1.1
theorem c_iDelKey_1 : MContract Try.prog 144 (winQ (msum SM_iDelKey_1 pre_iDelKey_1 g_iDelKey_1)) := (MContract.of_data G20 (fn := Try.f144) (by kernel_rfl) (L := fun _ _ => none) (by rw [show loopsIn 0 (bodyOf Try.f144) = [] by kernel_rfl]; simp) SM_iDelKey_1 pre_iDelKey_1 g_iDelKey_1 run_iDelKey_1).winQ (msum_quiet fun d => ⟨rfl, rfl⟩)
noncomputable def S21 : Tab := Tab.add S20 144 (winQ (msum SM_iDelKey_1 pre_iDelKey_1 g_iDelKey_1))
noncomputable def QF21 : FuncId → Bool := qadd QF20 144
theorem G21 : Good Try.prog tt S21 QF21 := G20.addMQ c_iDelKey_1 (winQ_local _) ⟨Try.f144, by kernel_rfl, by kernel_rfl, by kernel_rfl⟩ (winQ_quiet _)

/-! 153 slices.IndexFunc[[]loop.example/g00244/impl.Pair,loop.example/g00244/impl.Pair] -/
noncomputable abbrev SM_slices_IndexFunc_iPair_iDelKey_1 : SS := ⟨[.all 0 2, .fn 144 [1]], [.rows 118 true (.pair .str .str), .box [.t true .str]]⟩
noncomputable abbrev S_slices_IndexFunc_iPair_iDelKey_1_0 : SS := ⟨[.all 0 2, .fn 144 [1], .junk, .junk, .junk, .junk, .junk, .t true (.int .i64), .t true (.int .i64), .junk, .junk, .junk, .junk, .junk, .junk, .junk, .junk, .junk, .junk], [.rows 118 true (.pair .str .str), .box [.t true .str]]⟩
noncomputable abbrev E_slices_IndexFunc_iPair_iDelKey_1_0_0 : SS := ⟨[.junk, .junk, .junk, .junk, .t true (.int .i64), .junk, .junk, .junk, .junk, .junk, .junk, .junk, .junk, .junk, .junk, .junk, .junk, .junk, .junk], [.rows 118 true (.pair .str .str), .box [.t true .str]]⟩
noncomputable abbrev E_slices_IndexFunc_iPair_iDelKey_1_0_1 : SS := ⟨[.junk, .junk, .junk, .junk, .junk, .junk, .junk, .junk, .junk, .junk, .junk, .junk, .junk, .junk, .junk, .junk, .junk, .junk, .junk], [.rows 118 true (.pair .str .str), .box [.t true .str]]⟩
noncomputable def k1_slices_IndexFunc_iPair_iDelKey_1 (x8 : Int) (h0 : List (ByteArray × ByteArray)) (h1_0 : ByteArray) := iDelKey_1 ((h0.getD x8.toNat ((⟨#[]⟩ : ByteArray), (⟨#[]⟩ : ByteArray))).1) ((h0.getD x8.toNat ((⟨#[]⟩ : ByteArray), (⟨#[]⟩ : ByteArray))).2) h1_0
noncomputable def st_slices_IndexFunc_iPair_iDelKey_1_0 (x7 : Int) (x8 : Int) (h0 : List (ByteArray × ByteArray)) (h1_0 : ByteArray) : RT S_slices_IndexFunc_iPair_iDelKey_1_0.den := (.br (decide (x8 < x7)) (.br (decide (0 ≤ x8 ∧ x8 < ((h0.length : Nat) : Int))) (.br (k1_slices_IndexFunc_iPair_iDelKey_1 x8 h0 h1_0) (.done .ret E_slices_IndexFunc_iPair_iDelKey_1_0_0 (((), (), (), (), x8, (), (), (), (), (), (), (), (), (), (), (), (), (), (), ()), (h0, (h1_0, ()), ()))) (.next (((), (), (), (), (), (), (), x7, IntKind.wrap .i64 (x8 + (1 : Int)), (), (), (), (), (), (), (), (), (), (), ()), (h0, (h1_0, ()), ())))) .fail) (.done (.exit 0) E_slices_IndexFunc_iPair_iDelKey_1_0_1 (((), (), (), (), (), (), (), (), (), (), (), (), (), (), (), (), (), (), (), ()), (h0, (h1_0, ()), ()))))
noncomputable abbrev V_slices_IndexFunc_iPair_iDelKey_1_0 := (Int) × (Int)
noncomputable abbrev A_slices_IndexFunc_iPair_iDelKey_1_0 := Nat × (Int)
noncomputable def fl_slices_IndexFunc_iPair_iDelKey_1_0 : A_slices_IndexFunc_iPair_iDelKey_1_0 := (99, ((0 : Int) : Int))
noncomputable def ss_slices_IndexFunc_iPair_iDelKey_1_0 (x7 : Int) (x8 : Int) (h0 : List (ByteArray × ByteArray)) (h1_0 : ByteArray) : V_slices_IndexFunc_iPair_iDelKey_1_0 ⊕ A_slices_IndexFunc_iPair_iDelKey_1_0 := (cond (decide (x8 < x7)) (cond (decide (0 ≤ x8 ∧ x8 < ((h0.length : Nat) : Int))) (cond (k1_slices_IndexFunc_iPair_iDelKey_1 x8 h0 h1_0) (.inr (0, x8)) (.inl (x7, IntKind.wrap .i64 (x8 + (1 : Int))))) (.inr fl_slices_IndexFunc_iPair_iDelKey_1_0)) (.inr (1, ((0 : Int) : Int))))
noncomputable def it_slices_IndexFunc_iPair_iDelKey_1_0 (x7 : Int) (x8 : Int) (h0 : List (ByteArray × ByteArray)) (h1_0 : ByteArray) : A_slices_IndexFunc_iPair_iDelKey_1_0 := itX (fun v : V_slices_IndexFunc_iPair_iDelKey_1_0 => ss_slices_IndexFunc_iPair_iDelKey_1_0 v.1 v.2 h0 h1_0) fl_slices_IndexFunc_iPair_iDelKey_1_0 (x7, x8)
noncomputable def ct_slices_IndexFunc_iPair_iDelKey_1_0 (h0 : List (ByteArray × ByteArray)) (h1_0 : ByteArray) (a : A_slices_IndexFunc_iPair_iDelKey_1_0) : CT := (.br (a.1 == 0) (.done .ret E_slices_IndexFunc_iPair_iDelKey_1_0_0 (((), (), (), (), a.2, (), (), (), (), (), (), (), (), (), (), (), (), (), (), ()), (h0, (h1_0, ()), ()))) (.br (a.1 == 1) (.done (.exit 0) E_slices_IndexFunc_iPair_iDelKey_1_0_1 (((), (), (), (), (), (), (), (), (), (), (), (), (), (), (), (), (), (), (), ()), (h0, (h1_0, ()), ()))) .fail))
noncomputable def T_slices_IndexFunc_iPair_iDelKey_1_0 (x7 : Int) (x8 : Int) (h0 : List (ByteArray × ByteArray)) (h1_0 : ByteArray) : CT := (ct_slices_IndexFunc_iPair_iDelKey_1_0 h0 h1_0) (it_slices_IndexFunc_iPair_iDelKey_1_0 x7 x8 h0 h1_0)
noncomputable abbrev sp_slices_IndexFunc_iPair_iDelKey_1_0 : S_slices_IndexFunc_iPair_iDelKey_1_0.den → RT S_slices_IndexFunc_iPair_iDelKey_1_0.den := fun d => st_slices_IndexFunc_iPair_iDelKey_1_0 d.1.2.2.2.2.2.2.2.1 d.1.2.2.2.2.2.2.2.2.1 d.2.1 d.2.2.1.1
noncomputable abbrev pk_slices_IndexFunc_iPair_iDelKey_1_0 (x7 : Int) (x8 : Int) (h0 : List (ByteArray × ByteArray)) (h1_0 : ByteArray) : S_slices_IndexFunc_iPair_iDelKey_1_0.den := (((), (), (), (), (), (), (), x7, x8, (), (), (), (), (), (), (), (), (), (), ()), (h0, (h1_0, ()), ()))
noncomputable def body_slices_IndexFunc_iPair_iDelKey_1_0 : Code := ((loopsIn 0 (bodyOf Try.f153)).getD 0 (0, .skip)).2
theorem R_slices_IndexFunc_iPair_iDelKey_1_0 (x7 : Int) (x8 : Int) (h0 : List (ByteArray × ByteArray)) (h1_0 : ByteArray) : (T_slices_IndexFunc_iPair_iDelKey_1_0 x7 x8 h0 h1_0).val (D := S_slices_IndexFunc_iPair_iDelKey_1_0.den) = .fail ∨ Runs sp_slices_IndexFunc_iPair_iDelKey_1_0 (pk_slices_IndexFunc_iPair_iDelKey_1_0 x7 x8 h0 h1_0) (T_slices_IndexFunc_iPair_iDelKey_1_0 x7 x8 h0 h1_0).val := Runs.ofIt (step := sp_slices_IndexFunc_iPair_iDelKey_1_0) (fun v : V_slices_IndexFunc_iPair_iDelKey_1_0 => pk_slices_IndexFunc_iPair_iDelKey_1_0 v.1 v.2 h0 h1_0) (ct := (ct_slices_IndexFunc_iPair_iDelKey_1_0 h0 h1_0)) rfl (fun v => ((relB (relB (relB rfl rfl) rfl) rfl) : (st_slices_IndexFunc_iPair_iDelKey_1_0 v.1 v.2 h0 h1_0).val = relS (fun v : V_slices_IndexFunc_iPair_iDelKey_1_0 => pk_slices_IndexFunc_iPair_iDelKey_1_0 v.1 v.2 h0 h1_0) (ct_slices_IndexFunc_iPair_iDelKey_1_0 h0 h1_0) (ss_slices_IndexFunc_iPair_iDelKey_1_0 v.1 v.2 h0 h1_0))) (fun a => ((cendB (cendD (by simp)) (cendB (cendD (by simp)) cendF)) : CEnd _ ((ct_slices_IndexFunc_iPair_iDelKey_1_0 h0 h1_0) a))) (x7, x8)
theorem rd_slices_IndexFunc_iPair_iDelKey_1_0 : ∀ d, execC Try.prog tt S21 QF21 (fun _ _ => none) 0 body_slices_IndexFunc_iPair_iDelKey_1_0 (S_slices_IndexFunc_iPair_iDelKey_1_0.st d 2 []) (fun e s' => some (e, S_slices_IndexFunc_iPair_iDelKey_1_0.cutE (kepts [4] [(0, [])]) e s')) = (sp_slices_IndexFunc_iPair_iDelKey_1_0 d).opt 2 [] := by
  intro d
  kernel_rfl
noncomputable abbrev say_slices_IndexFunc_iPair_iDelKey_1_0 : St → Option Tree := S_slices_IndexFunc_iPair_iDelKey_1_0.say 2 [] [] (fun d => T_slices_IndexFunc_iPair_iDelKey_1_0 d.1.2.2.2.2.2.2.2.1 d.1.2.2.2.2.2.2.2.2.1 d.2.1 d.2.2.1.1)
theorem lw_slices_IndexFunc_iPair_iDelKey_1_0 : LoopWp Try.prog say_slices_IndexFunc_iPair_iDelKey_1_0 body_slices_IndexFunc_iPair_iDelKey_1_0 := SS.wp G21 (fun _ _ => none) (by rw [show loopsIn 0 body_slices_IndexFunc_iPair_iDelKey_1_0 = [] by kernel_rfl]; simp) S_slices_IndexFunc_iPair_iDelKey_1_0 2 [] (kepts [4] [(0, [])]) [] sp_slices_IndexFunc_iPair_iDelKey_1_0 rd_slices_IndexFunc_iPair_iDelKey_1_0 _ (fun d => R_slices_IndexFunc_iPair_iDelKey_1_0 d.1.2.2.2.2.2.2.2.1 d.1.2.2.2.2.2.2.2.2.1 d.2.1 d.2.2.1.1)
noncomputable def slices_IndexFunc_iPair_iDelKey_1 (h0 : List (ByteArray × ByteArray)) (h1_0 : ByteArray) : Int := (cond ((it_slices_IndexFunc_iPair_iDelKey_1_0 ((h0.length : Nat) : Int) (0 : Int) h0 h1_0).1 == 0) ((it_slices_IndexFunc_iPair_iDelKey_1_0 ((h0.length : Nat) : Int) (0 : Int) h0 h1_0).2) (-1 : Int))
noncomputable abbrev e_slices_IndexFunc_iPair_iDelKey_1 (h0 : List (ByteArray × ByteArray)) (h1_0 : ByteArray) (r : Int) : AV × List AObj × List Nat := ((.t true (.int .i64) r), [(.rows 118 true (.pair .str .str) h0), (.box [(.t true .str h1_0)])], [])
noncomputable abbrev g_slices_IndexFunc_iPair_iDelKey_1 : SM_slices_IndexFunc_iPair_iDelKey_1.den → AV × List AObj × List Nat := fun d => e_slices_IndexFunc_iPair_iDelKey_1 d.2.1 d.2.2.1.1 (slices_IndexFunc_iPair_iDelKey_1 d.2.1 d.2.2.1.1)
noncomputable def q_slices_IndexFunc_iPair_iDelKey_1 (h0 : List (ByteArray × ByteArray)) (h1_0 : ByteArray) : Bool := cond ((it_slices_IndexFunc_iPair_iDelKey_1_0 ((h0.length : Nat) : Int) (0 : Int) h0 h1_0).1 == 0) true ((it_slices_IndexFunc_iPair_iDelKey_1_0 ((h0.length : Nat) : Int) (0 : Int) h0 h1_0).1 == 1)
noncomputable abbrev pre_slices_IndexFunc_iPair_iDelKey_1 : SM_slices_IndexFunc_iPair_iDelKey_1.den → Bool := fun d => q_slices_IndexFunc_iPair_iDelKey_1 d.2.1 d.2.2.1.1
theorem runA_slices_IndexFunc_iPair_iDelKey_1 (h0 : List (ByteArray × ByteArray)) (h1_0 : ByteArray) (hp : (cond ((it_slices_IndexFunc_iPair_iDelKey_1_0 ((h0.length : Nat) : Int) (0 : Int) h0 h1_0).1 == 0) true ((it_slices_IndexFunc_iPair_iDelKey_1_0 ((h0.length : Nat) : Int) (0 : Int) h0 h1_0).1 == 1)) = true) : runM Try.prog tt S21 QF21 (fun b => match b with | 0 => say_slices_IndexFunc_iPair_iDelKey_1_0 | _ => fun _ => none) Try.f153 (shsMk SM_slices_IndexFunc_iPair_iDelKey_1.sl ((((), (), ()), (h0, (h1_0, ()), ())) : SM_slices_IndexFunc_iPair_iDelKey_1.den).1) (ohsMk SM_slices_IndexFunc_iPair_iDelKey_1.hp ((((), (), ()), (h0, (h1_0, ()), ())) : SM_slices_IndexFunc_iPair_iDelKey_1.den).2) = some (g_slices_IndexFunc_iPair_iDelKey_1 (((), (), ()), (h0, (h1_0, ()), ()))) := by
  refine Eq.trans (b := (cond ((it_slices_IndexFunc_iPair_iDelKey_1_0 ((h0.length : Nat) : Int) (0 : Int) h0 h1_0).1 == 0) (some (e_slices_IndexFunc_iPair_iDelKey_1 h0 h1_0 ((it_slices_IndexFunc_iPair_iDelKey_1_0 ((h0.length : Nat) : Int) (0 : Int) h0 h1_0).2))) (cond ((it_slices_IndexFunc_iPair_iDelKey_1_0 ((h0.length : Nat) : Int) (0 : Int) h0 h1_0).1 == 1) (some (e_slices_IndexFunc_iPair_iDelKey_1 h0 h1_0 (-1 : Int))) none))) (by kernel_rfl) ?_
  exact (cndQ (F := fun r => some (e_slices_IndexFunc_iPair_iDelKey_1 h0 h1_0 r)) hp (fun hp => rfl) (fun hp => (cndT hp (fun _h => rfl))))
theorem run_slices_IndexFunc_iPair_iDelKey_1 : ∀ d : SM_slices_IndexFunc_iPair_iDelKey_1.den, pre_slices_IndexFunc_iPair_iDelKey_1 d = true → runM Try.prog tt S21 QF21 (fun b => match b with | 0 => say_slices_IndexFunc_iPair_iDelKey_1_0 | _ => fun _ => none) Try.f153 (shsMk SM_slices_IndexFunc_iPair_iDelKey_1.sl (d : SM_slices_IndexFunc_iPair_iDelKey_1.den).1) (ohsMk SM_slices_IndexFunc_iPair_iDelKey_1.hp (d : SM_slices_IndexFunc_iPair_iDelKey_1.den).2) = some (g_slices_IndexFunc_iPair_iDelKey_1 d) := fun d hp => runA_slices_IndexFunc_iPair_iDelKey_1 d.2.1 d.2.2.1.1 hp
theorem c_slices_IndexFunc_iPair_iDelKey_1 : MContract Try.prog 153 (winQ (msum SM_slices_IndexFunc_iPair_iDelKey_1 pre_slices_IndexFunc_iPair_iDelKey_1 g_slices_IndexFunc_iPair_iDelKey_1)) := (MContract.of_data G21 (fn := Try.f153) (by kernel_rfl) (L := fun b => match b with | 0 => say_slices_IndexFunc_iPair_iDelKey_1_0 | _ => fun _ => none) (by rw [show loopsIn 0 (bodyOf Try.f153) = [(0, body_slices_IndexFunc_iPair_iDelKey_1_0)] by kernel_rfl]; intro p hp; simp only [List.mem_singleton] at hp; subst hp; exact lw_slices_IndexFunc_iPair_iDelKey_1_0) SM_slices_IndexFunc_iPair_iDelKey_1 pre_slices_IndexFunc_iPair_iDelKey_1 g_slices_IndexFunc_iPair_iDelKey_1 run_slices_IndexFunc_iPair_iDelKey_1).winQ (msum_quiet fun d => ⟨rfl, rfl⟩)
noncomputable def S22 : Tab := Tab.add S21 153 (orElseS (winQ (msum SM_slices_IndexFunc_iPair_ipairAt_1 pre_slices_IndexFunc_iPair_ipairAt_1 g_slices_IndexFunc_iPair_ipairAt_1)) (winQ (msum SM_slices_IndexFunc_iPair_iDelKey_1 pre_slices_IndexFunc_iPair_iDelKey_1 g_slices_IndexFunc_iPair_iDelKey_1)))
noncomputable def QF22 : FuncId → Bool := qadd QF21 153
theorem G22 : Good Try.prog tt S22 QF22 := G21.addMQ (MContract.orElse c_slices_IndexFunc_iPair_ipairAt_1 c_slices_IndexFunc_iPair_iDelKey_1) (orElse_local (winQ_local _) (winQ_local _)) ⟨Try.f153, by kernel_rfl, by kernel_rfl, by kernel_rfl⟩ (QuietS.orElse (winQ_quiet _) (winQ_quiet _))

/-! 143 slices.DeleteFunc[[]loop.example/g00244/impl.Pair,loop.example/g00244/impl.Pair] -/
noncomputable abbrev SM_slices_DeleteFunc_iPair : SS := ⟨[.all 0 2, .fn 144 [1]], [.rows 118 true (.pair .str .str), .box [.t true .str]]⟩
noncomputable abbrev S_slices_DeleteFunc_iPair_0 : SS := ⟨[.all 0 2, .fn 144 [1], .junk, .junk, .junk, .t true (.int .i64), .t true (.int .i64), .junk, .junk, .junk, .junk, .junk, .junk, .junk, .junk, .junk, .junk, .junk, .junk, .junk, .junk, .junk, .junk, .junk, .junk, .junk, .junk, .junk, .junk, .junk, .junk, .junk, .junk, .junk, .junk, .junk, .junk, .junk, .junk, .junk, .junk, .junk], [.rows 118 true (.pair .str .str), .box [.t true .str]]⟩
noncomputable abbrev E_slices_DeleteFunc_iPair_0_0 : SS := ⟨[.all 0 2, .junk, .junk, .junk, .junk, .t true (.int .i64), .junk, .junk, .junk, .junk, .junk, .junk, .junk, .junk, .junk, .junk, .junk, .junk, .junk, .junk, .junk, .junk, .junk, .junk, .junk, .junk, .junk, .junk, .junk, .junk, .junk, .junk, .junk, .junk, .junk, .junk, .junk, .junk, .junk, .junk, .junk, .junk], [.rows 118 true (.pair .str .str), .box [.t true .str]]⟩
noncomputable def k1_slices_DeleteFunc_iPair (x6 : Int) (h0 : List (ByteArray × ByteArray)) (h1_0 : ByteArray) := iDelKey_1 ((h0.getD x6.toNat ((⟨#[]⟩ : ByteArray), (⟨#[]⟩ : ByteArray))).1) ((h0.getD x6.toNat ((⟨#[]⟩ : ByteArray), (⟨#[]⟩ : ByteArray))).2) h1_0
noncomputable def st_slices_DeleteFunc_iPair_0 (x5 : Int) (x6 : Int) (h0 : List (ByteArray × ByteArray)) (h1_0 : ByteArray) : RT S_slices_DeleteFunc_iPair_0.den := (.br (decide (x6 < ((h0.length : Nat) : Int))) (.br (decide (0 ≤ x6 ∧ x6 < ((h0.length : Nat) : Int))) (.br (!(k1_slices_DeleteFunc_iPair x6 h0 h1_0)) (.br (decide (0 ≤ x5 ∧ x5 < ((h0.length : Nat) : Int))) (.next (((), (), (), (), (), IntKind.wrap .i64 (x5 + (1 : Int)), IntKind.wrap .i64 (x6 + (1 : Int)), (), (), (), (), (), (), (), (), (), (), (), (), (), (), (), (), (), (), (), (), (), (), (), (), (), (), (), (), (), (), (), (), (), (), (), ()), (h0.set x5.toNat ((h0.getD x6.toNat ((⟨#[]⟩ : ByteArray), (⟨#[]⟩ : ByteArray))).1, (h0.getD x6.toNat ((⟨#[]⟩ : ByteArray), (⟨#[]⟩ : ByteArray))).2), (h1_0, ()), ()))) .fail) (.next (((), (), (), (), (), x5, IntKind.wrap .i64 (x6 + (1 : Int)), (), (), (), (), (), (), (), (), (), (), (), (), (), (), (), (), (), (), (), (), (), (), (), (), (), (), (), (), (), (), (), (), (), (), (), ()), (h0, (h1_0, ()), ())))) .fail) (.done (.exit 0) E_slices_DeleteFunc_iPair_0_0 (((), (), (), (), (), x5, (), (), (), (), (), (), (), (), (), (), (), (), (), (), (), (), (), (), (), (), (), (), (), (), (), (), (), (), (), (), (), (), (), (), (), (), ()), (h0, (h1_0, ()), ()))))
noncomputable abbrev V_slices_DeleteFunc_iPair_0 := (Int) × (Int) × (List (ByteArray × ByteArray))
noncomputable abbrev A_slices_DeleteFunc_iPair_0 := Nat × (Int) × (List (ByteArray × ByteArray))
noncomputable def fl_slices_DeleteFunc_iPair_0 : A_slices_DeleteFunc_iPair_0 := (99, ((0 : Int) : Int), ([] : List (ByteArray × ByteArray)))
noncomputable def ss_slices_DeleteFunc_iPair_0 (x5 : Int) (x6 : Int) (h0 : List (ByteArray × ByteArray)) (h1_0 : ByteArray) : V_slices_DeleteFunc_iPair_0 ⊕ A_slices_DeleteFunc_iPair_0 := (cond (decide (x6 < ((h0.length : Nat) : Int))) (cond (decide (0 ≤ x6 ∧ x6 < ((h0.length : Nat) : Int))) (cond (!(k1_slices_DeleteFunc_iPair x6 h0 h1_0)) (cond (decide (0 ≤ x5 ∧ x5 < ((h0.length : Nat) : Int))) (.inl (IntKind.wrap .i64 (x5 + (1 : Int)), IntKind.wrap .i64 (x6 + (1 : Int)), h0.set x5.toNat ((h0.getD x6.toNat ((⟨#[]⟩ : ByteArray), (⟨#[]⟩ : ByteArray))).1, (h0.getD x6.toNat ((⟨#[]⟩ : ByteArray), (⟨#[]⟩ : ByteArray))).2))) (.inr fl_slices_DeleteFunc_iPair_0)) (.inl (x5, IntKind.wrap .i64 (x6 + (1 : Int)), h0))) (.inr fl_slices_DeleteFunc_iPair_0)) (.inr (0, x5, h0)))
noncomputable def it_slices_DeleteFunc_iPair_0 (x5 : Int) (x6 : Int) (h0 : List (ByteArray × ByteArray)) (h1_0 : ByteArray) : A_slices_DeleteFunc_iPair_0 := itX (fun v : V_slices_DeleteFunc_iPair_0 => ss_slices_DeleteFunc_iPair_0 v.1 v.2.1 v.2.2 h1_0) fl_slices_DeleteFunc_iPair_0 (x5, x6, h0)
noncomputable def ct_slices_DeleteFunc_iPair_0 (h1_0 : ByteArray) (a : A_slices_DeleteFunc_iPair_0) : CT := (.br (a.1 == 0) (.done (.exit 0) E_slices_DeleteFunc_iPair_0_0 (((), (), (), (), (), a.2.1, (), (), (), (), (), (), (), (), (), (), (), (), (), (), (), (), (), (), (), (), (), (), (), (), (), (), (), (), (), (), (), (), (), (), (), (), ()), (a.2.2, (h1_0, ()), ()))) .fail)
noncomputable def T_slices_DeleteFunc_iPair_0 (x5 : Int) (x6 : Int) (h0 : List (ByteArray × ByteArray)) (h1_0 : ByteArray) : CT := (ct_slices_DeleteFunc_iPair_0 h1_0) (it_slices_DeleteFunc_iPair_0 x5 x6 h0 h1_0)
noncomputable abbrev sp_slices_DeleteFunc_iPair_0 : S_slices_DeleteFunc_iPair_0.den → RT S_slices_DeleteFunc_iPair_0.den := fun d => st_slices_DeleteFunc_iPair_0 d.1.2.2.2.2.2.1 d.1.2.2.2.2.2.2.1 d.2.1 d.2.2.1.1
noncomputable abbrev pk_slices_DeleteFunc_iPair_0 (x5 : Int) (x6 : Int) (h0 : List (ByteArray × ByteArray)) (h1_0 : ByteArray) : S_slices_DeleteFunc_iPair_0.den := (((), (), (), (), (), x5, x6, (), (), (), (), (), (), (), (), (), (), (), (), (), (), (), (), (), (), (), (), (), (), (), (), (), (), (), (), (), (), (), (), (), (), (), ()), (h0, (h1_0, ()), ()))
noncomputable def body_slices_DeleteFunc_iPair_0 : Code := ((loopsIn 0 (bodyOf Try.f143)).getD 0 (0, .skip)).2
theorem R_slices_DeleteFunc_iPair_0 (x5 : Int) (x6 : Int) (h0 : List (ByteArray × ByteArray)) (h1_0 : ByteArray) : (T_slices_DeleteFunc_iPair_0 x5 x6 h0 h1_0).val (D := S_slices_DeleteFunc_iPair_0.den) = .fail ∨ Runs sp_slices_DeleteFunc_iPair_0 (pk_slices_DeleteFunc_iPair_0 x5 x6 h0 h1_0) (T_slices_DeleteFunc_iPair_0 x5 x6 h0 h1_0).val := Runs.ofIt (step := sp_slices_DeleteFunc_iPair_0) (fun v : V_slices_DeleteFunc_iPair_0 => pk_slices_DeleteFunc_iPair_0 v.1 v.2.1 v.2.2 h1_0) (ct := (ct_slices_DeleteFunc_iPair_0 h1_0)) rfl (fun v => ((relB (relB (relB (relB rfl rfl) rfl) rfl) rfl) : (st_slices_DeleteFunc_iPair_0 v.1 v.2.1 v.2.2 h1_0).val = relS (fun v : V_slices_DeleteFunc_iPair_0 => pk_slices_DeleteFunc_iPair_0 v.1 v.2.1 v.2.2 h1_0) (ct_slices_DeleteFunc_iPair_0 h1_0) (ss_slices_DeleteFunc_iPair_0 v.1 v.2.1 v.2.2 h1_0))) (fun a => ((cendB (cendD (by simp)) cendF) : CEnd _ ((ct_slices_DeleteFunc_iPair_0 h1_0) a))) (x5, x6, h0)
theorem rd_slices_DeleteFunc_iPair_0 : ∀ d, execC Try.prog tt S22 QF22 (fun _ _ => none) 0 body_slices_DeleteFunc_iPair_0 (S_slices_DeleteFunc_iPair_0.st d 2 []) (fun e s' => some (e, S_slices_DeleteFunc_iPair_0.cutE (kepts [] [(0, [0, 5])]) e s')) = (sp_slices_DeleteFunc_iPair_0 d).opt 2 [] := by
  intro d
  kernel_rfl
noncomputable abbrev say_slices_DeleteFunc_iPair_0 : St → Option Tree := S_slices_DeleteFunc_iPair_0.say 2 [] [] (fun d => T_slices_DeleteFunc_iPair_0 d.1.2.2.2.2.2.1 d.1.2.2.2.2.2.2.1 d.2.1 d.2.2.1.1)
theorem lw_slices_DeleteFunc_iPair_0 : LoopWp Try.prog say_slices_DeleteFunc_iPair_0 body_slices_DeleteFunc_iPair_0 := SS.wp G22 (fun _ _ => none) (by rw [show loopsIn 0 body_slices_DeleteFunc_iPair_0 = [] by kernel_rfl]; simp) S_slices_DeleteFunc_iPair_0 2 [] (kepts [] [(0, [0, 5])]) [] sp_slices_DeleteFunc_iPair_0 rd_slices_DeleteFunc_iPair_0 _ (fun d => R_slices_DeleteFunc_iPair_0 d.1.2.2.2.2.2.1 d.1.2.2.2.2.2.2.1 d.2.1 d.2.2.1.1)
noncomputable def k2_slices_DeleteFunc_iPair (h0 : List (ByteArray × ByteArray)) (h1_0 : ByteArray) := it_slices_DeleteFunc_iPair_0 (slices_IndexFunc_iPair_iDelKey_1 h0 h1_0) (IntKind.wrap .i64 ((slices_IndexFunc_iPair_iDelKey_1 h0 h1_0) + (1 : Int))) h0 h1_0
noncomputable def slices_DeleteFunc_iPair (h0 : List (ByteArray × ByteArray)) (h1_0 : ByteArray) : (List (ByteArray × ByteArray)) × ByteArray := (cond ((slices_IndexFunc_iPair_iDelKey_1 h0 h1_0) == (-1 : Int)) (h0, h1_0) (((((k2_slices_DeleteFunc_iPair h0 h1_0).2.2).take (((k2_slices_DeleteFunc_iPair h0 h1_0).2.1).toNat) ++ List.replicate (((((k2_slices_DeleteFunc_iPair h0 h1_0).2.2).length : Nat) : Int).toNat - ((k2_slices_DeleteFunc_iPair h0 h1_0).2.1).toNat) ((⟨#[]⟩ : ByteArray), (⟨#[]⟩ : ByteArray))) ++ ((k2_slices_DeleteFunc_iPair h0 h1_0).2.2).drop ((((k2_slices_DeleteFunc_iPair h0 h1_0).2.1).toNat) + (((((k2_slices_DeleteFunc_iPair h0 h1_0).2.2).length : Nat) : Int).toNat - ((k2_slices_DeleteFunc_iPair h0 h1_0).2.1).toNat))).take (((k2_slices_DeleteFunc_iPair h0 h1_0).2.1).toNat), h1_0))
noncomputable abbrev e_slices_DeleteFunc_iPair (r : (List (ByteArray × ByteArray)) × ByteArray) : AV × List AObj × List Nat := ((.all 0 2), [(.rows 118 true (.pair .str .str) r.1), (.box [(.t true .str r.2)])], [0])
noncomputable abbrev g_slices_DeleteFunc_iPair : SM_slices_DeleteFunc_iPair.den → AV × List AObj × List Nat := fun d => e_slices_DeleteFunc_iPair (slices_DeleteFunc_iPair d.2.1 d.2.2.1.1)
noncomputable def q_slices_DeleteFunc_iPair (h0 : List (ByteArray × ByteArray)) (h1_0 : ByteArray) : Bool := (q_slices_IndexFunc_iPair_iDelKey_1 h0 h1_0) && (cond ((slices_IndexFunc_iPair_iDelKey_1 h0 h1_0) == (-1 : Int)) true (((k2_slices_DeleteFunc_iPair h0 h1_0).1 == 0) && ((decide (0 ≤ ((k2_slices_DeleteFunc_iPair h0 h1_0).2.1) ∧ ((k2_slices_DeleteFunc_iPair h0 h1_0).2.1) ≤ ((((k2_slices_DeleteFunc_iPair h0 h1_0).2.2).length : Nat) : Int) ∧ ((((k2_slices_DeleteFunc_iPair h0 h1_0).2.2).length : Nat) : Int) ≤ ((((k2_slices_DeleteFunc_iPair h0 h1_0).2.2).length : Nat) : Int))) && (decide (0 ≤ (0 : Int) ∧ (0 : Int) ≤ ((k2_slices_DeleteFunc_iPair h0 h1_0).2.1) ∧ ((k2_slices_DeleteFunc_iPair h0 h1_0).2.1) ≤ ((((((k2_slices_DeleteFunc_iPair h0 h1_0).2.2).take (((k2_slices_DeleteFunc_iPair h0 h1_0).2.1).toNat) ++ List.replicate (((((k2_slices_DeleteFunc_iPair h0 h1_0).2.2).length : Nat) : Int).toNat - ((k2_slices_DeleteFunc_iPair h0 h1_0).2.1).toNat) ((⟨#[]⟩ : ByteArray), (⟨#[]⟩ : ByteArray))) ++ ((k2_slices_DeleteFunc_iPair h0 h1_0).2.2).drop ((((k2_slices_DeleteFunc_iPair h0 h1_0).2.1).toNat) + (((((k2_slices_DeleteFunc_iPair h0 h1_0).2.2).length : Nat) : Int).toNat - ((k2_slices_DeleteFunc_iPair h0 h1_0).2.1).toNat))).length : Nat) : Int))))))
noncomputable abbrev pre_slices_DeleteFunc_iPair : SM_slices_DeleteFunc_iPair.den → Bool := fun d => q_slices_DeleteFunc_iPair d.2.1 d.2.2.1.1
theorem runA_slices_DeleteFunc_iPair (h0 : List (ByteArray × ByteArray)) (h1_0 : ByteArray) (hp : ((q_slices_IndexFunc_iPair_iDelKey_1 h0 h1_0) && (cond ((slices_IndexFunc_iPair_iDelKey_1 h0 h1_0) == (-1 : Int)) true (((k2_slices_DeleteFunc_iPair h0 h1_0).1 == 0) && ((decide (0 ≤ ((k2_slices_DeleteFunc_iPair h0 h1_0).2.1) ∧ ((k2_slices_DeleteFunc_iPair h0 h1_0).2.1) ≤ ((((k2_slices_DeleteFunc_iPair h0 h1_0).2.2).length : Nat) : Int) ∧ ((((k2_slices_DeleteFunc_iPair h0 h1_0).2.2).length : Nat) : Int) ≤ ((((k2_slices_DeleteFunc_iPair h0 h1_0).2.2).length : Nat) : Int))) && (decide (0 ≤ (0 : Int) ∧ (0 : Int) ≤ ((k2_slices_DeleteFunc_iPair h0 h1_0).2.1) ∧ ((k2_slices_DeleteFunc_iPair h0 h1_0).2.1) ≤ ((((((k2_slices_DeleteFunc_iPair h0 h1_0).2.2).take (((k2_slices_DeleteFunc_iPair h0 h1_0).2.1).toNat) ++ List.replicate (((((k2_slices_DeleteFunc_iPair h0 h1_0).2.2).length : Nat) : Int).toNat - ((k2_slices_DeleteFunc_iPair h0 h1_0).2.1).toNat) ((⟨#[]⟩ : ByteArray), (⟨#[]⟩ : ByteArray))) ++ ((k2_slices_DeleteFunc_iPair h0 h1_0).2.2).drop ((((k2_slices_DeleteFunc_iPair h0 h1_0).2.1).toNat) + (((((k2_slices_DeleteFunc_iPair h0 h1_0).2.2).length : Nat) : Int).toNat - ((k2_slices_DeleteFunc_iPair h0 h1_0).2.1).toNat))).length : Nat) : Int))))))) = true) : runE false Try.prog tt S22 QF22 (fun b => match b with | 0 => say_slices_DeleteFunc_iPair_0 | _ => fun _ => none) Try.f143 (shsMk SM_slices_DeleteFunc_iPair.sl ((((), (), ()), (h0, (h1_0, ()), ())) : SM_slices_DeleteFunc_iPair.den).1) (ohsMk SM_slices_DeleteFunc_iPair.hp ((((), (), ()), (h0, (h1_0, ()), ())) : SM_slices_DeleteFunc_iPair.den).2) [] [0] [] = some (g_slices_DeleteFunc_iPair (((), (), ()), (h0, (h1_0, ()), ()))) := by
  refine Eq.trans (b := (cond (q_slices_IndexFunc_iPair_iDelKey_1 h0 h1_0) (cond ((slices_IndexFunc_iPair_iDelKey_1 h0 h1_0) == (-1 : Int)) (some (e_slices_DeleteFunc_iPair (h0, h1_0))) (cond ((k2_slices_DeleteFunc_iPair h0 h1_0).1 == 0) (cond (decide (0 ≤ ((k2_slices_DeleteFunc_iPair h0 h1_0).2.1) ∧ ((k2_slices_DeleteFunc_iPair h0 h1_0).2.1) ≤ ((((k2_slices_DeleteFunc_iPair h0 h1_0).2.2).length : Nat) : Int) ∧ ((((k2_slices_DeleteFunc_iPair h0 h1_0).2.2).length : Nat) : Int) ≤ ((((k2_slices_DeleteFunc_iPair h0 h1_0).2.2).length : Nat) : Int))) (cond (decide (0 ≤ (0 : Int) ∧ (0 : Int) ≤ ((k2_slices_DeleteFunc_iPair h0 h1_0).2.1) ∧ ((k2_slices_DeleteFunc_iPair h0 h1_0).2.1) ≤ ((((((k2_slices_DeleteFunc_iPair h0 h1_0).2.2).take (((k2_slices_DeleteFunc_iPair h0 h1_0).2.1).toNat) ++ List.replicate (((((k2_slices_DeleteFunc_iPair h0 h1_0).2.2).length : Nat) : Int).toNat - ((k2_slices_DeleteFunc_iPair h0 h1_0).2.1).toNat) ((⟨#[]⟩ : ByteArray), (⟨#[]⟩ : ByteArray))) ++ ((k2_slices_DeleteFunc_iPair h0 h1_0).2.2).drop ((((k2_slices_DeleteFunc_iPair h0 h1_0).2.1).toNat) + (((((k2_slices_DeleteFunc_iPair h0 h1_0).2.2).length : Nat) : Int).toNat - ((k2_slices_DeleteFunc_iPair h0 h1_0).2.1).toNat))).length : Nat) : Int))) (some (e_slices_DeleteFunc_iPair (((((k2_slices_DeleteFunc_iPair h0 h1_0).2.2).take (((k2_slices_DeleteFunc_iPair h0 h1_0).2.1).toNat) ++ List.replicate (((((k2_slices_DeleteFunc_iPair h0 h1_0).2.2).length : Nat) : Int).toNat - ((k2_slices_DeleteFunc_iPair h0 h1_0).2.1).toNat) ((⟨#[]⟩ : ByteArray), (⟨#[]⟩ : ByteArray))) ++ ((k2_slices_DeleteFunc_iPair h0 h1_0).2.2).drop ((((k2_slices_DeleteFunc_iPair h0 h1_0).2.1).toNat) + (((((k2_slices_DeleteFunc_iPair h0 h1_0).2.2).length : Nat) : Int).toNat - ((k2_slices_DeleteFunc_iPair h0 h1_0).2.1).toNat))).take (((k2_slices_DeleteFunc_iPair h0 h1_0).2.1).toNat), h1_0))) none) none) none)) none)) (by kernel_rfl) ?_
  exact (cndT (andL hp) (fun _h => (fun hp => (cndQ (F := fun r => some (e_slices_DeleteFunc_iPair r)) hp (fun hp => rfl) (fun hp => (cndT (andL hp) (fun _h => (fun hp => (cndT (andL hp) (fun _h => (fun hp => (cndT hp (fun _h => rfl))) (andR hp)))) (andR hp)))))) (andR hp)))
theorem run_slices_DeleteFunc_iPair : ∀ d : SM_slices_DeleteFunc_iPair.den, pre_slices_DeleteFunc_iPair d = true → runE false Try.prog tt S22 QF22 (fun b => match b with | 0 => say_slices_DeleteFunc_iPair_0 | _ => fun _ => none) Try.f143 (shsMk SM_slices_DeleteFunc_iPair.sl (d : SM_slices_DeleteFunc_iPair.den).1) (ohsMk SM_slices_DeleteFunc_iPair.hp (d : SM_slices_DeleteFunc_iPair.den).2) [] [0] [] = some (g_slices_DeleteFunc_iPair d) := fun d hp => runA_slices_DeleteFunc_iPair d.2.1 d.2.2.1.1 hp
theorem c_slices_DeleteFunc_iPair : MContract Try.prog 143 (win winIds (msum SM_slices_DeleteFunc_iPair pre_slices_DeleteFunc_iPair g_slices_DeleteFunc_iPair)) := (MContract.of_dataE false [] [0] []  G22 (fn := Try.f143) (by kernel_rfl) (L := fun b => match b with | 0 => say_slices_DeleteFunc_iPair_0 | _ => fun _ => none) (by rw [show loopsIn 0 (bodyOf Try.f143) = [(0, body_slices_DeleteFunc_iPair_0)] by kernel_rfl]; intro p hp; simp only [List.mem_singleton] at hp; subst hp; exact lw_slices_DeleteFunc_iPair_0) SM_slices_DeleteFunc_iPair pre_slices_DeleteFunc_iPair g_slices_DeleteFunc_iPair run_slices_DeleteFunc_iPair).win winIds
noncomputable def S23 : Tab := Tab.add S22 143 (win winIds (msum SM_slices_DeleteFunc_iPair pre_slices_DeleteFunc_iPair g_slices_DeleteFunc_iPair))
noncomputable def QF23 : FuncId → Bool := QF22
theorem G23 : Good Try.prog tt S23 QF23 := G22.addM c_slices_DeleteFunc_iPair (win_local _) ⟨Try.f143, by kernel_rfl, by kernel_rfl, by kernel_rfl⟩ (by kernel_rfl)

/-! 109 loop.example/g00244/impl.DelKey -/
noncomputable abbrev P_iDelKey : List PSh := [.t (.sl (.pair .str .str)), .t .str]
noncomputable def iDelKey (a0 : List (ByteArray × ByteArray)) (a1 : ByteArray) : List (ByteArray × ByteArray) := ((slices_DeleteFunc_iPair (slices_Clone_iPair a0) a1).1)
noncomputable abbrev e_iDelKey (r : List (ByteArray × ByteArray)) : AV × List AObj := ((.all 0 2), [(.rows 118 true (.pair .str .str) r)])
noncomputable abbrev g_iDelKey : pshsDen P_iDelKey → AV × List AObj := fun d => e_iDelKey (iDelKey d.1 d.2.1)
noncomputable def q_iDelKey (a0 : List (ByteArray × ByteArray)) (a1 : ByteArray) : Bool := (q_slices_Clone_iPair a0) && (q_slices_DeleteFunc_iPair (slices_Clone_iPair a0) a1)
noncomputable abbrev pre_iDelKey : pshsDen P_iDelKey → Bool := fun d => q_iDelKey d.1 d.2.1
theorem runA_iDelKey (a0 : List (ByteArray × ByteArray)) (a1 : ByteArray) (hp : ((q_slices_Clone_iPair a0) && (q_slices_DeleteFunc_iPair (slices_Clone_iPair a0) a1)) = true) : runP false Try.prog tt S23 QF23 (fun _ _ => none) Try.f109 (argsMk P_iDelKey (a0, (a1, ()))) = some (g_iDelKey (a0, (a1, ()))) := by
  refine Eq.trans (b := (cond (q_slices_Clone_iPair a0) (cond (q_slices_DeleteFunc_iPair (slices_Clone_iPair a0) a1) (some (e_iDelKey ((slices_DeleteFunc_iPair (slices_Clone_iPair a0) a1).1))) none) none)) (by kernel_rfl) ?_
  exact (cndT (andL hp) (fun _h => (fun hp => (cndT hp (fun _h => rfl))) (andR hp)))
theorem run_iDelKey : ∀ d, pre_iDelKey d = true → runP false Try.prog tt S23 QF23 (fun _ _ => none) Try.f109 (argsMk P_iDelKey d) = some (g_iDelKey d) := fun d hp => runA_iDelKey d.1 d.2.1 hp
theorem c_iDelKey : PContract Try.prog 109 (sumOf P_iDelKey pre_iDelKey g_iDelKey) := PContract.of_data false G23 (fn := Try.f109) (by kernel_rfl) (L := fun _ _ => none) (by rw [show loopsIn 0 (bodyOf Try.f109) = [] by kernel_rfl]; simp) P_iDelKey pre_iDelKey g_iDelKey run_iDelKey
noncomputable def S24 : Tab := Tab.add S23 109 (lift (sumOf P_iDelKey pre_iDelKey g_iDelKey))
noncomputable def QF24 : FuncId → Bool := QF23
theorem G24 : Good Try.prog tt S24 QF24 := G23.add c_iDelKey ⟨Try.f109, by kernel_rfl, by kernel_rfl, by kernel_rfl⟩ (by kernel_rfl)

/-! 46 loop.example/g00244/impl.Apply -/
noncomputable abbrev P_iApply : List PSh := [.t (.sl (.pair .str .str)), .t (.sl (.pair (.int .i64) (.pair .str .str)))]
noncomputable abbrev S_iApply_0 : SS := ⟨[.junk, .junk, .junk, .junk, .junk, .all 0 2, .junk, .junk, .junk, .junk, .t false (.sl (.pair (.int .i64) (.pair .str .str))), .t true (.int .i64), .t true (.int .i64), .junk, .junk, .junk, .junk, .junk, .junk, .junk, .junk, .junk, .junk, .junk, .junk, .junk, .junk, .junk, .junk, .junk, .junk, .junk, .junk, .junk], [.rows 118 true (.pair .str .str)]⟩
noncomputable abbrev E_iApply_0_0 : SS := ⟨[.junk, .junk, .junk, .junk, .junk, .all 0 2, .junk, .junk, .junk, .junk, .junk, .junk, .junk, .junk, .junk, .junk, .junk, .junk, .junk, .junk, .junk, .junk, .junk, .junk, .junk, .junk, .junk, .junk, .junk, .junk, .junk, .junk, .junk, .junk], [.rows 118 true (.pair .str .str)]⟩
noncomputable def k1_iApply (x10 : List (Int × ByteArray × ByteArray)) (x12 : Int) (h0 : List (ByteArray × ByteArray)) := iputKey (((x10.getD x12.toNat ((0 : Int), ((⟨#[]⟩ : ByteArray), (⟨#[]⟩ : ByteArray)))).2).1) (((x10.getD x12.toNat ((0 : Int), ((⟨#[]⟩ : ByteArray), (⟨#[]⟩ : ByteArray)))).2).2) h0
noncomputable def k2_iApply (x10 : List (Int × ByteArray × ByteArray)) (x12 : Int) (h0 : List (ByteArray × ByteArray)) := iDelKey h0 (((x10.getD x12.toNat ((0 : Int), ((⟨#[]⟩ : ByteArray), (⟨#[]⟩ : ByteArray)))).2).1)
noncomputable def st_iApply_0 (x10 : List (Int × ByteArray × ByteArray)) (x11 : Int) (x12 : Int) (h0 : List (ByteArray × ByteArray)) : RT S_iApply_0.den := (.br (decide (x12 < x11)) (.br (decide (0 ≤ x12 ∧ x12 < ((x10.length : Nat) : Int))) (.br (((x10.getD x12.toNat ((0 : Int), ((⟨#[]⟩ : ByteArray), (⟨#[]⟩ : ByteArray)))).1) == (1 : Int)) (.br (q_iputKey (((x10.getD x12.toNat ((0 : Int), ((⟨#[]⟩ : ByteArray), (⟨#[]⟩ : ByteArray)))).2).1) (((x10.getD x12.toNat ((0 : Int), ((⟨#[]⟩ : ByteArray), (⟨#[]⟩ : ByteArray)))).2).2) h0) (.next (((), (), (), (), (), (), (), (), (), (), x10, x11, IntKind.wrap .i64 (x12 + (1 : Int)), (), (), (), (), (), (), (), (), (), (), (), (), (), (), (), (), (), (), (), (), (), ()), ((k1_iApply x10 x12 h0), ()))) .fail) (.br (((x10.getD x12.toNat ((0 : Int), ((⟨#[]⟩ : ByteArray), (⟨#[]⟩ : ByteArray)))).1) == (2 : Int)) (.br (q_iDelKey h0 (((x10.getD x12.toNat ((0 : Int), ((⟨#[]⟩ : ByteArray), (⟨#[]⟩ : ByteArray)))).2).1)) (.next (((), (), (), (), (), (), (), (), (), (), x10, x11, IntKind.wrap .i64 (x12 + (1 : Int)), (), (), (), (), (), (), (), (), (), (), (), (), (), (), (), (), (), (), (), (), (), ()), ((k2_iApply x10 x12 h0), ()))) .fail) (.next (((), (), (), (), (), (), (), (), (), (), x10, x11, IntKind.wrap .i64 (x12 + (1 : Int)), (), (), (), (), (), (), (), (), (), (), (), (), (), (), (), (), (), (), (), (), (), ()), (h0, ()))))) .fail) (.done (.exit 0) E_iApply_0_0 (((), (), (), (), (), (), (), (), (), (), (), (), (), (), (), (), (), (), (), (), (), (), (), (), (), (), (), (), (), (), (), (), (), (), ()), (h0, ()))))
noncomputable abbrev V_iApply_0 := (List (Int × ByteArray × ByteArray)) × (Int) × (Int) × (List (ByteArray × ByteArray))
noncomputable abbrev A_iApply_0 := Nat × (List (ByteArray × ByteArray))
noncomputable def fl_iApply_0 : A_iApply_0 := (99, ([] : List (ByteArray × ByteArray)))
noncomputable def ss_iApply_0 (x10 : List (Int × ByteArray × ByteArray)) (x11 : Int) (x12 : Int) (h0 : List (ByteArray × ByteArray)) : V_iApply_0 ⊕ A_iApply_0 := (cond (decide (x12 < x11)) (cond (decide (0 ≤ x12 ∧ x12 < ((x10.length : Nat) : Int))) (cond (((x10.getD x12.toNat ((0 : Int), ((⟨#[]⟩ : ByteArray), (⟨#[]⟩ : ByteArray)))).1) == (1 : Int)) (cond (q_iputKey (((x10.getD x12.toNat ((0 : Int), ((⟨#[]⟩ : ByteArray), (⟨#[]⟩ : ByteArray)))).2).1) (((x10.getD x12.toNat ((0 : Int), ((⟨#[]⟩ : ByteArray), (⟨#[]⟩ : ByteArray)))).2).2) h0) (.inl (x10, x11, IntKind.wrap .i64 (x12 + (1 : Int)), (k1_iApply x10 x12 h0))) (.inr fl_iApply_0)) (cond (((x10.getD x12.toNat ((0 : Int), ((⟨#[]⟩ : ByteArray), (⟨#[]⟩ : ByteArray)))).1) == (2 : Int)) (cond (q_iDelKey h0 (((x10.getD x12.toNat ((0 : Int), ((⟨#[]⟩ : ByteArray), (⟨#[]⟩ : ByteArray)))).2).1)) (.inl (x10, x11, IntKind.wrap .i64 (x12 + (1 : Int)), (k2_iApply x10 x12 h0))) (.inr fl_iApply_0)) (.inl (x10, x11, IntKind.wrap .i64 (x12 + (1 : Int)), h0)))) (.inr fl_iApply_0)) (.inr (0, h0)))
noncomputable def it_iApply_0 (x10 : List (Int × ByteArray × ByteArray)) (x11 : Int) (x12 : Int) (h0 : List (ByteArray × ByteArray)) : A_iApply_0 := itX (fun v : V_iApply_0 => ss_iApply_0 v.1 v.2.1 v.2.2.1 v.2.2.2) fl_iApply_0 (x10, x11, x12, h0)
noncomputable def ct_iApply_0 (a : A_iApply_0) : CT := (.br (a.1 == 0) (.done (.exit 0) E_iApply_0_0 (((), (), (), (), (), (), (), (), (), (), (), (), (), (), (), (), (), (), (), (), (), (), (), (), (), (), (), (), (), (), (), (), (), (), ()), (a.2, ()))) .fail)
noncomputable def T_iApply_0 (x10 : List (Int × ByteArray × ByteArray)) (x11 : Int) (x12 : Int) (h0 : List (ByteArray × ByteArray)) : CT := ct_iApply_0 (it_iApply_0 x10 x11 x12 h0)
noncomputable abbrev sp_iApply_0 : S_iApply_0.den → RT S_iApply_0.den := fun d => st_iApply_0 d.1.2.2.2.2.2.2.2.2.2.2.1 d.1.2.2.2.2.2.2.2.2.2.2.2.1 d.1.2.2.2.2.2.2.2.2.2.2.2.2.1 d.2.1
noncomputable abbrev pk_iApply_0 (x10 : List (Int × ByteArray × ByteArray)) (x11 : Int) (x12 : Int) (h0 : List (ByteArray × ByteArray)) : S_iApply_0.den := (((), (), (), (), (), (), (), (), (), (), x10, x11, x12, (), (), (), (), (), (), (), (), (), (), (), (), (), (), (), (), (), (), (), (), (), ()), (h0, ()))
noncomputable def body_iApply_0 : Code := ((loopsIn 0 (bodyOf Try.f46)).getD 0 (0, .skip)).2
theorem R_iApply_0 (x10 : List (Int × ByteArray × ByteArray)) (x11 : Int) (x12 : Int) (h0 : List (ByteArray × ByteArray)) : (T_iApply_0 x10 x11 x12 h0).val (D := S_iApply_0.den) = .fail ∨ Runs sp_iApply_0 (pk_iApply_0 x10 x11 x12 h0) (T_iApply_0 x10 x11 x12 h0).val := Runs.ofIt (step := sp_iApply_0) (fun v : V_iApply_0 => pk_iApply_0 v.1 v.2.1 v.2.2.1 v.2.2.2) (ct := ct_iApply_0) rfl (fun v => ((relB (relB (relB (relB rfl rfl) (relB (relB rfl rfl) rfl)) rfl) rfl) : (st_iApply_0 v.1 v.2.1 v.2.2.1 v.2.2.2).val = relS (fun v : V_iApply_0 => pk_iApply_0 v.1 v.2.1 v.2.2.1 v.2.2.2) ct_iApply_0 (ss_iApply_0 v.1 v.2.1 v.2.2.1 v.2.2.2))) (fun a => ((cendB (cendD (by simp)) cendF) : CEnd _ (ct_iApply_0 a))) (x10, x11, x12, h0)
theorem rd_iApply_0 : ∀ d, execC Try.prog tt S24 QF24 (fun _ _ => none) 0 body_iApply_0 (S_iApply_0.st d 0 []) (fun e s' => some (e, S_iApply_0.cutE (kepts [] [(0, [5])]) e s')) = (sp_iApply_0 d).opt 0 [] := by
  intro d
  kernel_rfl
noncomputable abbrev say_iApply_0 : St → Option Tree := S_iApply_0.say 0 [] [] (fun d => T_iApply_0 d.1.2.2.2.2.2.2.2.2.2.2.1 d.1.2.2.2.2.2.2.2.2.2.2.2.1 d.1.2.2.2.2.2.2.2.2.2.2.2.2.1 d.2.1)
theorem lw_iApply_0 : LoopWp Try.prog say_iApply_0 body_iApply_0 := SS.wp G24 (fun _ _ => none) (by rw [show loopsIn 0 body_iApply_0 = [] by kernel_rfl]; simp) S_iApply_0 0 [] (kepts [] [(0, [5])]) [] sp_iApply_0 rd_iApply_0 _ (fun d => R_iApply_0 d.1.2.2.2.2.2.2.2.2.2.2.1 d.1.2.2.2.2.2.2.2.2.2.2.2.1 d.1.2.2.2.2.2.2.2.2.2.2.2.2.1 d.2.1)
noncomputable def iApply (a0 : List (ByteArray × ByteArray)) (a1 : List (Int × ByteArray × ByteArray)) : List (ByteArray × ByteArray) := ((it_iApply_0 a1 ((a1.length : Nat) : Int) (0 : Int) (slices_Clone_iPair a0)).2)
noncomputable abbrev e_iApply (r : List (ByteArray × ByteArray)) : AV × List AObj := ((.all 0 2), [(.rows 118 true (.pair .str .str) r)])
noncomputable abbrev g_iApply : pshsDen P_iApply → AV × List AObj := fun d => e_iApply (iApply d.1 d.2.1)
noncomputable def q_iApply (a0 : List (ByteArray × ByteArray)) (a1 : List (Int × ByteArray × ByteArray)) : Bool := (q_slices_Clone_iPair a0) && ((it_iApply_0 a1 ((a1.length : Nat) : Int) (0 : Int) (slices_Clone_iPair a0)).1 == 0)
noncomputable abbrev pre_iApply : pshsDen P_iApply → Bool := fun d => q_iApply d.1 d.2.1
theorem runA_iApply (a0 : List (ByteArray × ByteArray)) (a1 : List (Int × ByteArray × ByteArray)) (hp : ((q_slices_Clone_iPair a0) && ((it_iApply_0 a1 ((a1.length : Nat) : Int) (0 : Int) (slices_Clone_iPair a0)).1 == 0)) = true) : runP false Try.prog tt S24 QF24 (fun b => match b with | 0 => say_iApply_0 | _ => fun _ => none) Try.f46 (argsMk P_iApply (a0, (a1, ()))) = some (g_iApply (a0, (a1, ()))) := by
  refine Eq.trans (b := (cond (q_slices_Clone_iPair a0) (cond ((it_iApply_0 a1 ((a1.length : Nat) : Int) (0 : Int) (slices_Clone_iPair a0)).1 == 0) (some (e_iApply ((it_iApply_0 a1 ((a1.length : Nat) : Int) (0 : Int) (slices_Clone_iPair a0)).2))) none) none)) (by kernel_rfl) ?_
  exact (cndT (andL hp) (fun _h => (fun hp => (cndT hp (fun _h => rfl))) (andR hp)))
theorem run_iApply : ∀ d, pre_iApply d = true → runP false Try.prog tt S24 QF24 (fun b => match b with | 0 => say_iApply_0 | _ => fun _ => none) Try.f46 (argsMk P_iApply d) = some (g_iApply d) := fun d hp => runA_iApply d.1 d.2.1 hp
theorem c_iApply : PContract Try.prog 46 (sumOf P_iApply pre_iApply g_iApply) := PContract.of_data false G24 (fn := Try.f46) (by kernel_rfl) (L := fun b => match b with | 0 => say_iApply_0 | _ => fun _ => none) (by rw [show loopsIn 0 (bodyOf Try.f46) = [(0, body_iApply_0)] by kernel_rfl]; intro p hp; simp only [List.mem_singleton] at hp; subst hp; exact lw_iApply_0) P_iApply pre_iApply g_iApply run_iApply
noncomputable def S25 : Tab := Tab.add S24 46 (lift (sumOf P_iApply pre_iApply g_iApply))
noncomputable def QF25 : FuncId → Bool := QF24
theorem G25 : Good Try.prog tt S25 QF25 := G24.add c_iApply ⟨Try.f46, by kernel_rfl, by kernel_rfl, by kernel_rfl⟩ (by kernel_rfl)

/-! 63 loop.example/g00244/impl.GetKey -/
noncomputable abbrev P_iGetKey : List PSh := [.t (.sl (.pair .str .str)), .t .str]
noncomputable def iGetKey (a0 : List (ByteArray × ByteArray)) (a1 : ByteArray) : ByteArray × Bool := (cond (decide ((ipairAt a0 a1) < (0 : Int))) ((⟨#[]⟩ : ByteArray), false) ((a0.getD ((ipairAt a0 a1).toNat) ((⟨#[]⟩ : ByteArray), (⟨#[]⟩ : ByteArray))).2, true))
noncomputable abbrev e_iGetKey (r : ByteArray × Bool) : AV × List AObj := ((.tup [(.t true .str r.1), (.t true .bool r.2)]), [])
noncomputable abbrev g_iGetKey : pshsDen P_iGetKey → AV × List AObj := fun d => e_iGetKey (iGetKey d.1 d.2.1)
noncomputable def q_iGetKey (a0 : List (ByteArray × ByteArray)) (a1 : ByteArray) : Bool := (q_ipairAt a0 a1) && (cond (decide ((ipairAt a0 a1) < (0 : Int))) true (decide (0 ≤ (ipairAt a0 a1) ∧ (ipairAt a0 a1) < ((a0.length : Nat) : Int))))
noncomputable abbrev pre_iGetKey : pshsDen P_iGetKey → Bool := fun d => q_iGetKey d.1 d.2.1
theorem runA_iGetKey (a0 : List (ByteArray × ByteArray)) (a1 : ByteArray) (hp : ((q_ipairAt a0 a1) && (cond (decide ((ipairAt a0 a1) < (0 : Int))) true (decide (0 ≤ (ipairAt a0 a1) ∧ (ipairAt a0 a1) < ((a0.length : Nat) : Int))))) = true) : runP true Try.prog tt S25 QF25 (fun _ _ => none) Try.f63 (argsMk P_iGetKey (a0, (a1, ()))) = some (g_iGetKey (a0, (a1, ()))) := by
  refine Eq.trans (b := (cond (q_ipairAt a0 a1) (cond (decide ((ipairAt a0 a1) < (0 : Int))) (some (e_iGetKey ((⟨#[]⟩ : ByteArray), false))) (cond (decide (0 ≤ (ipairAt a0 a1) ∧ (ipairAt a0 a1) < ((a0.length : Nat) : Int))) (some (e_iGetKey ((a0.getD ((ipairAt a0 a1).toNat) ((⟨#[]⟩ : ByteArray), (⟨#[]⟩ : ByteArray))).2, true))) none)) none)) (by kernel_rfl) ?_
  exact (cndT (andL hp) (fun _h => (fun hp => (cndQ (F := fun r => some (e_iGetKey r)) hp (fun hp => rfl) (fun hp => (cndT hp (fun _h => rfl))))) (andR hp)))
theorem run_iGetKey : ∀ d, pre_iGetKey d = true → runP true Try.prog tt S25 QF25 (fun _ _ => none) Try.f63 (argsMk P_iGetKey d) = some (g_iGetKey d) := fun d hp => runA_iGetKey d.1 d.2.1 hp
theorem c_iGetKey : PContract Try.prog 63 (sumOf P_iGetKey pre_iGetKey g_iGetKey) := PContract.of_data true G25 (fn := Try.f63) (by kernel_rfl) (L := fun _ _ => none) (by rw [show loopsIn 0 (bodyOf Try.f63) = [] by kernel_rfl]; simp) P_iGetKey pre_iGetKey g_iGetKey run_iGetKey
noncomputable def S26 : Tab := Tab.add S25 63 (lift (sumOf P_iGetKey pre_iGetKey g_iGetKey))
noncomputable def QF26 : FuncId → Bool := qadd QF25 63
theorem G26 : Good Try.prog tt S26 QF26 := G25.addQ c_iGetKey ⟨Try.f63, by kernel_rfl, by kernel_rfl, by kernel_rfl⟩ (fun _ => rfl)

/-! 64 loop.example/g00244/laws.samePairs -/
noncomputable abbrev P_lsamePairs : List PSh := [.t (.sl (.pair .str .str)), .t (.sl (.pair .str .str))]
noncomputable abbrev S_lsamePairs_0 : SS := ⟨[.t false (.sl (.pair .str .str)), .t false (.sl (.pair .str .str)), .junk, .junk, .junk, .t true (.int .i64), .junk, .junk, .junk, .junk, .junk, .junk, .junk, .junk, .junk, .junk, .junk, .junk, .junk, .junk, .junk, .junk, .junk, .junk, .junk, .junk], []⟩
noncomputable abbrev E_lsamePairs_0_0 : SS := ⟨[.junk, .junk, .junk, .junk, .t true .bool, .junk, .junk, .junk, .junk, .junk, .junk, .junk, .junk, .junk, .junk, .junk, .junk, .junk, .junk, .junk, .junk, .junk, .junk, .junk, .junk, .junk], []⟩
noncomputable abbrev E_lsamePairs_0_1 : SS := ⟨[.junk, .junk, .junk, .junk, .junk, .junk, .junk, .junk, .junk, .junk, .junk, .junk, .junk, .junk, .junk, .junk, .junk, .junk, .junk, .junk, .junk, .junk, .junk, .junk, .junk, .junk], []⟩
noncomputable def st_lsamePairs_0 (x0 : List (ByteArray × ByteArray)) (x1 : List (ByteArray × ByteArray)) (x5 : Int) : RT S_lsamePairs_0.den := (.br (decide (x5 < ((x0.length : Nat) : Int))) (.br (decide (0 ≤ x5 ∧ x5 < ((x0.length : Nat) : Int))) (.br (decide (0 ≤ x5 ∧ x5 < ((x1.length : Nat) : Int))) (.br (!((((x0.getD x5.toNat ((⟨#[]⟩ : ByteArray), (⟨#[]⟩ : ByteArray))).1).toList == ((x1.getD x5.toNat ((⟨#[]⟩ : ByteArray), (⟨#[]⟩ : ByteArray))).1).toList) && ((((x0.getD x5.toNat ((⟨#[]⟩ : ByteArray), (⟨#[]⟩ : ByteArray))).2).toList == ((x1.getD x5.toNat ((⟨#[]⟩ : ByteArray), (⟨#[]⟩ : ByteArray))).2).toList) && true))) (.done .ret E_lsamePairs_0_0 (((), (), (), (), false, (), (), (), (), (), (), (), (), (), (), (), (), (), (), (), (), (), (), (), (), (), ()), ())) (.next ((x0, x1, (), (), (), IntKind.wrap .i64 (x5 + (1 : Int)), (), (), (), (), (), (), (), (), (), (), (), (), (), (), (), (), (), (), (), (), ()), ()))) .fail) .fail) (.done (.exit 0) E_lsamePairs_0_1 (((), (), (), (), (), (), (), (), (), (), (), (), (), (), (), (), (), (), (), (), (), (), (), (), (), (), ()), ())))
noncomputable abbrev V_lsamePairs_0 := (List (ByteArray × ByteArray)) × (List (ByteArray × ByteArray)) × (Int)
noncomputable abbrev A_lsamePairs_0 := Nat × (Bool)
noncomputable def fl_lsamePairs_0 : A_lsamePairs_0 := (99, (false : Bool))
noncomputable def ss_lsamePairs_0 (x0 : List (ByteArray × ByteArray)) (x1 : List (ByteArray × ByteArray)) (x5 : Int) : V_lsamePairs_0 ⊕ A_lsamePairs_0 := (cond (decide (x5 < ((x0.length : Nat) : Int))) (cond (decide (0 ≤ x5 ∧ x5 < ((x0.length : Nat) : Int))) (cond (decide (0 ≤ x5 ∧ x5 < ((x1.length : Nat) : Int))) (cond (!((((x0.getD x5.toNat ((⟨#[]⟩ : ByteArray), (⟨#[]⟩ : ByteArray))).1).toList == ((x1.getD x5.toNat ((⟨#[]⟩ : ByteArray), (⟨#[]⟩ : ByteArray))).1).toList) && ((((x0.getD x5.toNat ((⟨#[]⟩ : ByteArray), (⟨#[]⟩ : ByteArray))).2).toList == ((x1.getD x5.toNat ((⟨#[]⟩ : ByteArray), (⟨#[]⟩ : ByteArray))).2).toList) && true))) (.inr (0, false)) (.inl (x0, x1, IntKind.wrap .i64 (x5 + (1 : Int))))) (.inr fl_lsamePairs_0)) (.inr fl_lsamePairs_0)) (.inr (1, (false : Bool))))
noncomputable def it_lsamePairs_0 (x0 : List (ByteArray × ByteArray)) (x1 : List (ByteArray × ByteArray)) (x5 : Int) : A_lsamePairs_0 := itX (fun v : V_lsamePairs_0 => ss_lsamePairs_0 v.1 v.2.1 v.2.2) fl_lsamePairs_0 (x0, x1, x5)
noncomputable def ct_lsamePairs_0 (a : A_lsamePairs_0) : CT := (.br (a.1 == 0) (.done .ret E_lsamePairs_0_0 (((), (), (), (), a.2, (), (), (), (), (), (), (), (), (), (), (), (), (), (), (), (), (), (), (), (), (), ()), ())) (.br (a.1 == 1) (.done (.exit 0) E_lsamePairs_0_1 (((), (), (), (), (), (), (), (), (), (), (), (), (), (), (), (), (), (), (), (), (), (), (), (), (), (), ()), ())) .fail))
noncomputable def T_lsamePairs_0 (x0 : List (ByteArray × ByteArray)) (x1 : List (ByteArray × ByteArray)) (x5 : Int) : CT := ct_lsamePairs_0 (it_lsamePairs_0 x0 x1 x5)
noncomputable abbrev sp_lsamePairs_0 : S_lsamePairs_0.den → RT S_lsamePairs_0.den := fun d => st_lsamePairs_0 d.1.1 d.1.2.1 d.1.2.2.2.2.2.1
noncomputable abbrev pk_lsamePairs_0 (x0 : List (ByteArray × ByteArray)) (x1 : List (ByteArray × ByteArray)) (x5 : Int) : S_lsamePairs_0.den := ((x0, x1, (), (), (), x5, (), (), (), (), (), (), (), (), (), (), (), (), (), (), (), (), (), (), (), (), ()), ())
noncomputable def body_lsamePairs_0 : Code := ((loopsIn 0 (bodyOf Try.f64)).getD 0 (0, .skip)).2
theorem R_lsamePairs_0 (x0 : List (ByteArray × ByteArray)) (x1 : List (ByteArray × ByteArray)) (x5 : Int) : (T_lsamePairs_0 x0 x1 x5).val (D := S_lsamePairs_0.den) = .fail ∨ Runs sp_lsamePairs_0 (pk_lsamePairs_0 x0 x1 x5) (T_lsamePairs_0 x0 x1 x5).val := Runs.ofIt (step := sp_lsamePairs_0) (fun v : V_lsamePairs_0 => pk_lsamePairs_0 v.1 v.2.1 v.2.2) (ct := ct_lsamePairs_0) rfl (fun v => ((relB (relB (relB (relB rfl rfl) rfl) rfl) rfl) : (st_lsamePairs_0 v.1 v.2.1 v.2.2).val = relS (fun v : V_lsamePairs_0 => pk_lsamePairs_0 v.1 v.2.1 v.2.2) ct_lsamePairs_0 (ss_lsamePairs_0 v.1 v.2.1 v.2.2))) (fun a => ((cendB (cendD (by simp)) (cendB (cendD (by simp)) cendF)) : CEnd _ (ct_lsamePairs_0 a))) (x0, x1, x5)
theorem rd_lsamePairs_0 : ∀ d, execC Try.prog tt S26 QF26 (fun _ _ => none) 0 body_lsamePairs_0 (S_lsamePairs_0.st d 0 []) (fun e s' => some (e, S_lsamePairs_0.cutE (kepts [4] [(0, [])]) e s')) = (sp_lsamePairs_0 d).opt 0 [] := by
  intro d
  kernel_rfl
noncomputable abbrev say_lsamePairs_0 : St → Option Tree := S_lsamePairs_0.say 0 [] [] (fun d => T_lsamePairs_0 d.1.1 d.1.2.1 d.1.2.2.2.2.2.1)
theorem lw_lsamePairs_0 : LoopWp Try.prog say_lsamePairs_0 body_lsamePairs_0 := SS.wp G26 (fun _ _ => none) (by rw [show loopsIn 0 body_lsamePairs_0 = [] by kernel_rfl]; simp) S_lsamePairs_0 0 [] (kepts [4] [(0, [])]) [] sp_lsamePairs_0 rd_lsamePairs_0 _ (fun d => R_lsamePairs_0 d.1.1 d.1.2.1 d.1.2.2.2.2.2.1)
noncomputable def lsamePairs (a0 : List (ByteArray × ByteArray)) (a1 : List (ByteArray × ByteArray)) : Bool := (cond (((a0.length : Nat) : Int) != ((a1.length : Nat) : Int)) false (cond ((it_lsamePairs_0 a0 a1 (0 : Int)).1 == 0) ((it_lsamePairs_0 a0 a1 (0 : Int)).2) true))
noncomputable abbrev e_lsamePairs (r : Bool) : AV × List AObj := ((.t true .bool r), [])
noncomputable abbrev g_lsamePairs : pshsDen P_lsamePairs → AV × List AObj := fun d => e_lsamePairs (lsamePairs d.1 d.2.1)
noncomputable def q_lsamePairs (a0 : List (ByteArray × ByteArray)) (a1 : List (ByteArray × ByteArray)) : Bool := cond (((a0.length : Nat) : Int) != ((a1.length : Nat) : Int)) true (cond ((it_lsamePairs_0 a0 a1 (0 : Int)).1 == 0) true ((it_lsamePairs_0 a0 a1 (0 : Int)).1 == 1))
noncomputable abbrev pre_lsamePairs : pshsDen P_lsamePairs → Bool := fun d => q_lsamePairs d.1 d.2.1
theorem runA_lsamePairs (a0 : List (ByteArray × ByteArray)) (a1 : List (ByteArray × ByteArray)) (hp : (cond (((a0.length : Nat) : Int) != ((a1.length : Nat) : Int)) true (cond ((it_lsamePairs_0 a0 a1 (0 : Int)).1 == 0) true ((it_lsamePairs_0 a0 a1 (0 : Int)).1 == 1))) = true) : runP true Try.prog tt S26 QF26 (fun b => match b with | 0 => say_lsamePairs_0 | _ => fun _ => none) Try.f64 (argsMk P_lsamePairs (a0, (a1, ()))) = some (g_lsamePairs (a0, (a1, ()))) := by
  refine Eq.trans (b := (cond (((a0.length : Nat) : Int) != ((a1.length : Nat) : Int)) (some (e_lsamePairs false)) (cond ((it_lsamePairs_0 a0 a1 (0 : Int)).1 == 0) (some (e_lsamePairs ((it_lsamePairs_0 a0 a1 (0 : Int)).2))) (cond ((it_lsamePairs_0 a0 a1 (0 : Int)).1 == 1) (some (e_lsamePairs true)) none)))) (by kernel_rfl) ?_
  exact (cndQ (F := fun r => some (e_lsamePairs r)) hp (fun hp => rfl) (fun hp => (cndQ (F := fun r => some (e_lsamePairs r)) hp (fun hp => rfl) (fun hp => (cndT hp (fun _h => rfl))))))
theorem run_lsamePairs : ∀ d, pre_lsamePairs d = true → runP true Try.prog tt S26 QF26 (fun b => match b with | 0 => say_lsamePairs_0 | _ => fun _ => none) Try.f64 (argsMk P_lsamePairs d) = some (g_lsamePairs d) := fun d hp => runA_lsamePairs d.1 d.2.1 hp
theorem c_lsamePairs : PContract Try.prog 64 (sumOf P_lsamePairs pre_lsamePairs g_lsamePairs) := PContract.of_data true G26 (fn := Try.f64) (by kernel_rfl) (L := fun b => match b with | 0 => say_lsamePairs_0 | _ => fun _ => none) (by rw [show loopsIn 0 (bodyOf Try.f64) = [(0, body_lsamePairs_0)] by kernel_rfl]; intro p hp; simp only [List.mem_singleton] at hp; subst hp; exact lw_lsamePairs_0) P_lsamePairs pre_lsamePairs g_lsamePairs run_lsamePairs
noncomputable def S27 : Tab := Tab.add S26 64 (lift (sumOf P_lsamePairs pre_lsamePairs g_lsamePairs))
noncomputable def QF27 : FuncId → Bool := qadd QF26 64
theorem G27 : Good Try.prog tt S27 QF27 := G26.addQ c_lsamePairs ⟨Try.f64, by kernel_rfl, by kernel_rfl, by kernel_rfl⟩ (fun _ => rfl)

/-! 104 loop.example/g00244/spec.DelKey -/
noncomputable abbrev P_sDelKey : List PSh := [.t (.sl (.pair .str .str)), .t .str]
noncomputable abbrev S_sDelKey_0 : SS := ⟨[.t false (.sl (.pair .str .str)), .t true .str, .junk, .junk, .junk, .all 0 2, .t true (.int .i64), .junk, .junk, .junk, .junk, .junk, .junk, .junk, .junk, .junk, .junk, .junk, .junk, .junk, .junk, .junk, .junk, .junk, .junk, .junk, .junk, .junk, .junk], [.rows 118 true (.pair .str .str)]⟩
noncomputable abbrev E_sDelKey_0_0 : SS := ⟨[.junk, .junk, .junk, .junk, .junk, .all 0 2, .junk, .junk, .junk, .junk, .junk, .junk, .junk, .junk, .junk, .junk, .junk, .junk, .junk, .junk, .junk, .junk, .junk, .junk, .junk, .junk, .junk, .junk, .junk], [.rows 118 true (.pair .str .str)]⟩
noncomputable def st_sDelKey_0 (x0 : List (ByteArray × ByteArray)) (x1 : ByteArray) (x6 : Int) (h0 : List (ByteArray × ByteArray)) : RT S_sDelKey_0.den := (.br (decide (x6 < ((x0.length : Nat) : Int))) (.br (decide (0 ≤ x6 ∧ x6 < ((x0.length : Nat) : Int))) (.br (!(((x0.getD x6.toNat ((⟨#[]⟩ : ByteArray), (⟨#[]⟩ : ByteArray))).1).toList == x1.toList)) (.br (decide (0 ≤ x6 ∧ x6 < ((x0.length : Nat) : Int))) (.br (decide ((h0.length + ([((x0.getD x6.toNat ((⟨#[]⟩ : ByteArray), (⟨#[]⟩ : ByteArray))).1, (x0.getD x6.toNat ((⟨#[]⟩ : ByteArray), (⟨#[]⟩ : ByteArray))).2)]).length) * 32 ≤ MAXB)) (.next ((x0, x1, (), (), (), (), IntKind.wrap .i64 (x6 + (1 : Int)), (), (), (), (), (), (), (), (), (), (), (), (), (), (), (), (), (), (), (), (), (), (), ()), (h0 ++ ([((x0.getD x6.toNat ((⟨#[]⟩ : ByteArray), (⟨#[]⟩ : ByteArray))).1, (x0.getD x6.toNat ((⟨#[]⟩ : ByteArray), (⟨#[]⟩ : ByteArray))).2)]), ()))) .fail) .fail) (.next ((x0, x1, (), (), (), (), IntKind.wrap .i64 (x6 + (1 : Int)), (), (), (), (), (), (), (), (), (), (), (), (), (), (), (), (), (), (), (), (), (), (), ()), (h0, ())))) .fail) (.done (.exit 0) E_sDelKey_0_0 (((), (), (), (), (), (), (), (), (), (), (), (), (), (), (), (), (), (), (), (), (), (), (), (), (), (), (), (), (), ()), (h0, ()))))
noncomputable abbrev V_sDelKey_0 := (List (ByteArray × ByteArray)) × (ByteArray) × (Int) × (List (ByteArray × ByteArray))
noncomputable abbrev A_sDelKey_0 := Nat × (List (ByteArray × ByteArray))
noncomputable def fl_sDelKey_0 : A_sDelKey_0 := (99, ([] : List (ByteArray × ByteArray)))
noncomputable def ss_sDelKey_0 (x0 : List (ByteArray × ByteArray)) (x1 : ByteArray) (x6 : Int) (h0 : List (ByteArray × ByteArray)) : V_sDelKey_0 ⊕ A_sDelKey_0 := (cond (decide (x6 < ((x0.length : Nat) : Int))) (cond (decide (0 ≤ x6 ∧ x6 < ((x0.length : Nat) : Int))) (cond (!(((x0.getD x6.toNat ((⟨#[]⟩ : ByteArray), (⟨#[]⟩ : ByteArray))).1).toList == x1.toList)) (cond (decide (0 ≤ x6 ∧ x6 < ((x0.length : Nat) : Int))) (cond (decide ((h0.length + ([((x0.getD x6.toNat ((⟨#[]⟩ : ByteArray), (⟨#[]⟩ : ByteArray))).1, (x0.getD x6.toNat ((⟨#[]⟩ : ByteArray), (⟨#[]⟩ : ByteArray))).2)]).length) * 32 ≤ MAXB)) (.inl (x0, x1, IntKind.wrap .i64 (x6 + (1 : Int)), h0 ++ ([((x0.getD x6.toNat ((⟨#[]⟩ : ByteArray), (⟨#[]⟩ : ByteArray))).1, (x0.getD x6.toNat ((⟨#[]⟩ : ByteArray), (⟨#[]⟩ : ByteArray))).2)]))) (.inr fl_sDelKey_0)) (.inr fl_sDelKey_0)) (.inl (x0, x1, IntKind.wrap .i64 (x6 + (1 : Int)), h0))) (.inr fl_sDelKey_0)) (.inr (0, h0)))
noncomputable def it_sDelKey_0 (x0 : List (ByteArray × ByteArray)) (x1 : ByteArray) (x6 : Int) (h0 : List (ByteArray × ByteArray)) : A_sDelKey_0 := itX (fun v : V_sDelKey_0 => ss_sDelKey_0 v.1 v.2.1 v.2.2.1 v.2.2.2) fl_sDelKey_0 (x0, x1, x6, h0)
noncomputable def ct_sDelKey_0 (a : A_sDelKey_0) : CT := (.br (a.1 == 0) (.done (.exit 0) E_sDelKey_0_0 (((), (), (), (), (), (), (), (), (), (), (), (), (), (), (), (), (), (), (), (), (), (), (), (), (), (), (), (), (), ()), (a.2, ()))) .fail)
noncomputable def T_sDelKey_0 (x0 : List (ByteArray × ByteArray)) (x1 : ByteArray) (x6 : Int) (h0 : List (ByteArray × ByteArray)) : CT := ct_sDelKey_0 (it_sDelKey_0 x0 x1 x6 h0)
noncomputable abbrev sp_sDelKey_0 : S_sDelKey_0.den → RT S_sDelKey_0.den := fun d => st_sDelKey_0 d.1.1 d.1.2.1 d.1.2.2.2.2.2.2.1 d.2.1
noncomputable abbrev pk_sDelKey_0 (x0 : List (ByteArray × ByteArray)) (x1 : ByteArray) (x6 : Int) (h0 : List (ByteArray × ByteArray)) : S_sDelKey_0.den := ((x0, x1, (), (), (), (), x6, (), (), (), (), (), (), (), (), (), (), (), (), (), (), (), (), (), (), (), (), (), (), ()), (h0, ()))
noncomputable def body_sDelKey_0 : Code := ((loopsIn 0 (bodyOf Try.f104)).getD 0 (0, .skip)).2
theorem R_sDelKey_0 (x0 : List (ByteArray × ByteArray)) (x1 : ByteArray) (x6 : Int) (h0 : List (ByteArray × ByteArray)) : (T_sDelKey_0 x0 x1 x6 h0).val (D := S_sDelKey_0.den) = .fail ∨ Runs sp_sDelKey_0 (pk_sDelKey_0 x0 x1 x6 h0) (T_sDelKey_0 x0 x1 x6 h0).val := Runs.ofIt (step := sp_sDelKey_0) (fun v : V_sDelKey_0 => pk_sDelKey_0 v.1 v.2.1 v.2.2.1 v.2.2.2) (ct := ct_sDelKey_0) rfl (fun v => ((relB (relB (relB (relB (relB rfl rfl) rfl) rfl) rfl) rfl) : (st_sDelKey_0 v.1 v.2.1 v.2.2.1 v.2.2.2).val = relS (fun v : V_sDelKey_0 => pk_sDelKey_0 v.1 v.2.1 v.2.2.1 v.2.2.2) ct_sDelKey_0 (ss_sDelKey_0 v.1 v.2.1 v.2.2.1 v.2.2.2))) (fun a => ((cendB (cendD (by simp)) cendF) : CEnd _ (ct_sDelKey_0 a))) (x0, x1, x6, h0)
theorem rd_sDelKey_0 : ∀ d, execC Try.prog tt S27 QF27 (fun _ _ => none) 0 body_sDelKey_0 (S_sDelKey_0.st d 0 []) (fun e s' => some (e, S_sDelKey_0.cutE (kepts [] [(0, [5])]) e s')) = (sp_sDelKey_0 d).opt 0 [] := by
  intro d
  kernel_rfl
noncomputable abbrev say_sDelKey_0 : St → Option Tree := S_sDelKey_0.say 0 [] [] (fun d => T_sDelKey_0 d.1.1 d.1.2.1 d.1.2.2.2.2.2.2.1 d.2.1)
theorem lw_sDelKey_0 : LoopWp Try.prog say_sDelKey_0 body_sDelKey_0 := SS.wp G27 (fun _ _ => none) (by rw [show loopsIn 0 body_sDelKey_0 = [] by kernel_rfl]; simp) S_sDelKey_0 0 [] (kepts [] [(0, [5])]) [] sp_sDelKey_0 rd_sDelKey_0 _ (fun d => R_sDelKey_0 d.1.1 d.1.2.1 d.1.2.2.2.2.2.2.1 d.2.1)
noncomputable def sDelKey (a0 : List (ByteArray × ByteArray)) (a1 : ByteArray) : List (ByteArray × ByteArray) := ((it_sDelKey_0 a0 a1 (0 : Int) ([] : List (ByteArray × ByteArray))).2)
noncomputable abbrev e_sDelKey (r : List (ByteArray × ByteArray)) : AV × List AObj := ((.all 0 2), [(.rows 118 true (.pair .str .str) r)])
noncomputable abbrev g_sDelKey : pshsDen P_sDelKey → AV × List AObj := fun d => e_sDelKey (sDelKey d.1 d.2.1)
noncomputable def q_sDelKey (a0 : List (ByteArray × ByteArray)) (a1 : ByteArray) : Bool := ((it_sDelKey_0 a0 a1 (0 : Int) ([] : List (ByteArray × ByteArray))).1 == 0)
noncomputable abbrev pre_sDelKey : pshsDen P_sDelKey → Bool := fun d => q_sDelKey d.1 d.2.1
theorem runA_sDelKey (a0 : List (ByteArray × ByteArray)) (a1 : ByteArray) (hp : (((it_sDelKey_0 a0 a1 (0 : Int) ([] : List (ByteArray × ByteArray))).1 == 0)) = true) : runP false Try.prog tt S27 QF27 (fun b => match b with | 0 => say_sDelKey_0 | _ => fun _ => none) Try.f104 (argsMk P_sDelKey (a0, (a1, ()))) = some (g_sDelKey (a0, (a1, ()))) := by
  refine Eq.trans (b := (cond ((it_sDelKey_0 a0 a1 (0 : Int) ([] : List (ByteArray × ByteArray))).1 == 0) (some (e_sDelKey ((it_sDelKey_0 a0 a1 (0 : Int) ([] : List (ByteArray × ByteArray))).2))) none)) (by kernel_rfl) ?_
  exact (cndT hp (fun _h => rfl))
theorem run_sDelKey : ∀ d, pre_sDelKey d = true → runP false Try.prog tt S27 QF27 (fun b => match b with | 0 => say_sDelKey_0 | _ => fun _ => none) Try.f104 (argsMk P_sDelKey d) = some (g_sDelKey d) := fun d hp => runA_sDelKey d.1 d.2.1 hp
theorem c_sDelKey : PContract Try.prog 104 (sumOf P_sDelKey pre_sDelKey g_sDelKey) := PContract.of_data false G27 (fn := Try.f104) (by kernel_rfl) (L := fun b => match b with | 0 => say_sDelKey_0 | _ => fun _ => none) (by rw [show loopsIn 0 (bodyOf Try.f104) = [(0, body_sDelKey_0)] by kernel_rfl]; intro p hp; simp only [List.mem_singleton] at hp; subst hp; exact lw_sDelKey_0) P_sDelKey pre_sDelKey g_sDelKey run_sDelKey
noncomputable def S28 : Tab := Tab.add S27 104 (lift (sumOf P_sDelKey pre_sDelKey g_sDelKey))
noncomputable def QF28 : FuncId → Bool := QF27
theorem G28 : Good Try.prog tt S28 QF28 := G27.add c_sDelKey ⟨Try.f104, by kernel_rfl, by kernel_rfl, by kernel_rfl⟩ (by kernel_rfl)

/-! 43 loop.example/g00244/spec.Apply -/
noncomputable abbrev P_sApply : List PSh := [.t (.sl (.pair .str .str)), .t (.sl (.pair (.int .i64) (.pair .str .str)))]
noncomputable abbrev S_sApply_0 : SS := ⟨[.junk, .t false (.sl (.pair (.int .i64) (.pair .str .str))), .junk, .junk, .junk, .all 0 2, .t true (.int .i64), .junk, .junk, .junk, .junk, .junk, .junk, .junk, .junk, .junk, .junk, .junk, .junk, .junk, .junk, .junk, .junk, .junk, .junk, .junk, .junk, .junk, .junk, .junk, .junk, .junk, .junk, .junk, .junk, .junk, .junk, .junk, .junk, .junk, .junk, .junk, .junk, .junk, .junk], [.rows 118 true (.pair .str .str)]⟩
noncomputable abbrev E_sApply_0_0 : SS := ⟨[.junk, .junk, .junk, .junk, .junk, .all 0 2, .junk, .junk, .junk, .junk, .junk, .junk, .junk, .junk, .junk, .junk, .junk, .junk, .junk, .junk, .junk, .junk, .junk, .junk, .junk, .junk, .junk, .junk, .junk, .junk, .junk, .junk, .junk, .junk, .junk, .junk, .junk, .junk, .junk, .junk, .junk, .junk, .junk, .junk, .junk], [.rows 118 true (.pair .str .str)]⟩
noncomputable def k1_sApply (x1 : List (Int × ByteArray × ByteArray)) (x6 : Int) (h0 : List (ByteArray × ByteArray)) := sPutKey h0 (((x1.getD x6.toNat ((0 : Int), ((⟨#[]⟩ : ByteArray), (⟨#[]⟩ : ByteArray)))).2).1) (((x1.getD x6.toNat ((0 : Int), ((⟨#[]⟩ : ByteArray), (⟨#[]⟩ : ByteArray)))).2).2)
noncomputable def k2_sApply (x1 : List (Int × ByteArray × ByteArray)) (x6 : Int) (h0 : List (ByteArray × ByteArray)) := sDelKey h0 (((x1.getD x6.toNat ((0 : Int), ((⟨#[]⟩ : ByteArray), (⟨#[]⟩ : ByteArray)))).2).1)
noncomputable def st_sApply_0 (x1 : List (Int × ByteArray × ByteArray)) (x6 : Int) (h0 : List (ByteArray × ByteArray)) : RT S_sApply_0.den := (.br (decide (x6 < ((x1.length : Nat) : Int))) (.br (decide (0 ≤ x6 ∧ x6 < ((x1.length : Nat) : Int))) (.br (((x1.getD x6.toNat ((0 : Int), ((⟨#[]⟩ : ByteArray), (⟨#[]⟩ : ByteArray)))).1) == (1 : Int)) (.br (decide (0 ≤ x6 ∧ x6 < ((x1.length : Nat) : Int))) (.br (decide (0 ≤ x6 ∧ x6 < ((x1.length : Nat) : Int))) (.br (q_sPutKey h0 (((x1.getD x6.toNat ((0 : Int), ((⟨#[]⟩ : ByteArray), (⟨#[]⟩ : ByteArray)))).2).1) (((x1.getD x6.toNat ((0 : Int), ((⟨#[]⟩ : ByteArray), (⟨#[]⟩ : ByteArray)))).2).2)) (.next (((), x1, (), (), (), (), IntKind.wrap .i64 (x6 + (1 : Int)), (), (), (), (), (), (), (), (), (), (), (), (), (), (), (), (), (), (), (), (), (), (), (), (), (), (), (), (), (), (), (), (), (), (), (), (), (), (), ()), ((k1_sApply x1 x6 h0), ()))) .fail) .fail) .fail) (.br (((x1.getD x6.toNat ((0 : Int), ((⟨#[]⟩ : ByteArray), (⟨#[]⟩ : ByteArray)))).1) == (2 : Int)) (.br (decide (0 ≤ x6 ∧ x6 < ((x1.length : Nat) : Int))) (.br (q_sDelKey h0 (((x1.getD x6.toNat ((0 : Int), ((⟨#[]⟩ : ByteArray), (⟨#[]⟩ : ByteArray)))).2).1)) (.next (((), x1, (), (), (), (), IntKind.wrap .i64 (x6 + (1 : Int)), (), (), (), (), (), (), (), (), (), (), (), (), (), (), (), (), (), (), (), (), (), (), (), (), (), (), (), (), (), (), (), (), (), (), (), (), (), (), ()), ((k2_sApply x1 x6 h0), ()))) .fail) .fail) (.next (((), x1, (), (), (), (), IntKind.wrap .i64 (x6 + (1 : Int)), (), (), (), (), (), (), (), (), (), (), (), (), (), (), (), (), (), (), (), (), (), (), (), (), (), (), (), (), (), (), (), (), (), (), (), (), (), (), ()), (h0, ()))))) .fail) (.done (.exit 0) E_sApply_0_0 (((), (), (), (), (), (), (), (), (), (), (), (), (), (), (), (), (), (), (), (), (), (), (), (), (), (), (), (), (), (), (), (), (), (), (), (), (), (), (), (), (), (), (), (), (), ()), (h0, ()))))
noncomputable abbrev V_sApply_0 := (List (Int × ByteArray × ByteArray)) × (Int) × (List (ByteArray × ByteArray))
noncomputable abbrev A_sApply_0 := Nat × (List (ByteArray × ByteArray))
noncomputable def fl_sApply_0 : A_sApply_0 := (99, ([] : List (ByteArray × ByteArray)))
noncomputable def ss_sApply_0 (x1 : List (Int × ByteArray × ByteArray)) (x6 : Int) (h0 : List (ByteArray × ByteArray)) : V_sApply_0 ⊕ A_sApply_0 := (cond (decide (x6 < ((x1.length : Nat) : Int))) (cond (decide (0 ≤ x6 ∧ x6 < ((x1.length : Nat) : Int))) (cond (((x1.getD x6.toNat ((0 : Int), ((⟨#[]⟩ : ByteArray), (⟨#[]⟩ : ByteArray)))).1) == (1 : Int)) (cond (decide (0 ≤ x6 ∧ x6 < ((x1.length : Nat) : Int))) (cond (decide (0 ≤ x6 ∧ x6 < ((x1.length : Nat) : Int))) (cond (q_sPutKey h0 (((x1.getD x6.toNat ((0 : Int), ((⟨#[]⟩ : ByteArray), (⟨#[]⟩ : ByteArray)))).2).1) (((x1.getD x6.toNat ((0 : Int), ((⟨#[]⟩ : ByteArray), (⟨#[]⟩ : ByteArray)))).2).2)) (.inl (x1, IntKind.wrap .i64 (x6 + (1 : Int)), (k1_sApply x1 x6 h0))) (.inr fl_sApply_0)) (.inr fl_sApply_0)) (.inr fl_sApply_0)) (cond (((x1.getD x6.toNat ((0 : Int), ((⟨#[]⟩ : ByteArray), (⟨#[]⟩ : ByteArray)))).1) == (2 : Int)) (cond (decide (0 ≤ x6 ∧ x6 < ((x1.length : Nat) : Int))) (cond (q_sDelKey h0 (((x1.getD x6.toNat ((0 : Int), ((⟨#[]⟩ : ByteArray), (⟨#[]⟩ : ByteArray)))).2).1)) (.inl (x1, IntKind.wrap .i64 (x6 + (1 : Int)), (k2_sApply x1 x6 h0))) (.inr fl_sApply_0)) (.inr fl_sApply_0)) (.inl (x1, IntKind.wrap .i64 (x6 + (1 : Int)), h0)))) (.inr fl_sApply_0)) (.inr (0, h0)))
noncomputable def it_sApply_0 (x1 : List (Int × ByteArray × ByteArray)) (x6 : Int) (h0 : List (ByteArray × ByteArray)) : A_sApply_0 := itX (fun v : V_sApply_0 => ss_sApply_0 v.1 v.2.1 v.2.2) fl_sApply_0 (x1, x6, h0)
noncomputable def ct_sApply_0 (a : A_sApply_0) : CT := (.br (a.1 == 0) (.done (.exit 0) E_sApply_0_0 (((), (), (), (), (), (), (), (), (), (), (), (), (), (), (), (), (), (), (), (), (), (), (), (), (), (), (), (), (), (), (), (), (), (), (), (), (), (), (), (), (), (), (), (), (), ()), (a.2, ()))) .fail)
noncomputable def T_sApply_0 (x1 : List (Int × ByteArray × ByteArray)) (x6 : Int) (h0 : List (ByteArray × ByteArray)) : CT := ct_sApply_0 (it_sApply_0 x1 x6 h0)
noncomputable abbrev sp_sApply_0 : S_sApply_0.den → RT S_sApply_0.den := fun d => st_sApply_0 d.1.2.1 d.1.2.2.2.2.2.2.1 d.2.1
noncomputable abbrev pk_sApply_0 (x1 : List (Int × ByteArray × ByteArray)) (x6 : Int) (h0 : List (ByteArray × ByteArray)) : S_sApply_0.den := (((), x1, (), (), (), (), x6, (), (), (), (), (), (), (), (), (), (), (), (), (), (), (), (), (), (), (), (), (), (), (), (), (), (), (), (), (), (), (), (), (), (), (), (), (), (), ()), (h0, ()))
noncomputable def body_sApply_0 : Code := ((loopsIn 0 (bodyOf Try.f43)).getD 0 (0, .skip)).2
theorem R_sApply_0 (x1 : List (Int × ByteArray × ByteArray)) (x6 : Int) (h0 : List (ByteArray × ByteArray)) : (T_sApply_0 x1 x6 h0).val (D := S_sApply_0.den) = .fail ∨ Runs sp_sApply_0 (pk_sApply_0 x1 x6 h0) (T_sApply_0 x1 x6 h0).val := Runs.ofIt (step := sp_sApply_0) (fun v : V_sApply_0 => pk_sApply_0 v.1 v.2.1 v.2.2) (ct := ct_sApply_0) rfl (fun v => ((relB (relB (relB (relB (relB (relB rfl rfl) rfl) rfl) (relB (relB (relB rfl rfl) rfl) rfl)) rfl) rfl) : (st_sApply_0 v.1 v.2.1 v.2.2).val = relS (fun v : V_sApply_0 => pk_sApply_0 v.1 v.2.1 v.2.2) ct_sApply_0 (ss_sApply_0 v.1 v.2.1 v.2.2))) (fun a => ((cendB (cendD (by simp)) cendF) : CEnd _ (ct_sApply_0 a))) (x1, x6, h0)
theorem rd_sApply_0 : ∀ d, execC Try.prog tt S28 QF28 (fun _ _ => none) 0 body_sApply_0 (S_sApply_0.st d 0 []) (fun e s' => some (e, S_sApply_0.cutE (kepts [] [(0, [5])]) e s')) = (sp_sApply_0 d).opt 0 [] := by
  intro d
  kernel_rfl
noncomputable abbrev say_sApply_0 : St → Option Tree := S_sApply_0.say 0 [] [] (fun d => T_sApply_0 d.1.2.1 d.1.2.2.2.2.2.2.1 d.2.1)
theorem lw_sApply_0 : LoopWp Try.prog say_sApply_0 body_sApply_0 := SS.wp G28 (fun _ _ => none) (by rw [show loopsIn 0 body_sApply_0 = [] by kernel_rfl]; simp) S_sApply_0 0 [] (kepts [] [(0, [5])]) [] sp_sApply_0 rd_sApply_0 _ (fun d => R_sApply_0 d.1.2.1 d.1.2.2.2.2.2.2.1 d.2.1)
noncomputable def sApply (a0 : List (ByteArray × ByteArray)) (a1 : List (Int × ByteArray × ByteArray)) : List (ByteArray × ByteArray) := ((it_sApply_0 a1 (0 : Int) (([] : List (ByteArray × ByteArray)) ++ a0)).2)
noncomputable abbrev e_sApply (r : List (ByteArray × ByteArray)) : AV × List AObj := ((.all 0 2), [(.rows 118 true (.pair .str .str) r)])
noncomputable abbrev g_sApply : pshsDen P_sApply → AV × List AObj := fun d => e_sApply (sApply d.1 d.2.1)
noncomputable def q_sApply (a0 : List (ByteArray × ByteArray)) (a1 : List (Int × ByteArray × ByteArray)) : Bool := (decide ((([] : List (ByteArray × ByteArray)).length + a0.length) * 32 ≤ MAXB)) && ((it_sApply_0 a1 (0 : Int) (([] : List (ByteArray × ByteArray)) ++ a0)).1 == 0)
noncomputable abbrev pre_sApply : pshsDen P_sApply → Bool := fun d => q_sApply d.1 d.2.1
theorem runA_sApply (a0 : List (ByteArray × ByteArray)) (a1 : List (Int × ByteArray × ByteArray)) (hp : ((decide ((([] : List (ByteArray × ByteArray)).length + a0.length) * 32 ≤ MAXB)) && ((it_sApply_0 a1 (0 : Int) (([] : List (ByteArray × ByteArray)) ++ a0)).1 == 0)) = true) : runP false Try.prog tt S28 QF28 (fun b => match b with | 0 => say_sApply_0 | _ => fun _ => none) Try.f43 (argsMk P_sApply (a0, (a1, ()))) = some (g_sApply (a0, (a1, ()))) := by
  refine Eq.trans (b := (cond (decide ((([] : List (ByteArray × ByteArray)).length + a0.length) * 32 ≤ MAXB)) (cond ((it_sApply_0 a1 (0 : Int) (([] : List (ByteArray × ByteArray)) ++ a0)).1 == 0) (some (e_sApply ((it_sApply_0 a1 (0 : Int) (([] : List (ByteArray × ByteArray)) ++ a0)).2))) none) none)) (by kernel_rfl) ?_
  exact (cndT (andL hp) (fun _h => (fun hp => (cndT hp (fun _h => rfl))) (andR hp)))
theorem run_sApply : ∀ d, pre_sApply d = true → runP false Try.prog tt S28 QF28 (fun b => match b with | 0 => say_sApply_0 | _ => fun _ => none) Try.f43 (argsMk P_sApply d) = some (g_sApply d) := fun d hp => runA_sApply d.1 d.2.1 hp
theorem c_sApply : PContract Try.prog 43 (sumOf P_sApply pre_sApply g_sApply) := PContract.of_data false G28 (fn := Try.f43) (by kernel_rfl) (L := fun b => match b with | 0 => say_sApply_0 | _ => fun _ => none) (by rw [show loopsIn 0 (bodyOf Try.f43) = [(0, body_sApply_0)] by kernel_rfl]; intro p hp; simp only [List.mem_singleton] at hp; subst hp; exact lw_sApply_0) P_sApply pre_sApply g_sApply run_sApply
noncomputable def S29 : Tab := Tab.add S28 43 (lift (sumOf P_sApply pre_sApply g_sApply))
noncomputable def QF29 : FuncId → Bool := QF28
theorem G29 : Good Try.prog tt S29 QF29 := G28.add c_sApply ⟨Try.f43, by kernel_rfl, by kernel_rfl, by kernel_rfl⟩ (by kernel_rfl)

/-! 89 loop.example/g00244/impl.inRange -/
noncomputable abbrev P_iinRange : List PSh := [.t (.int .i64), .t (.int .i64), .t (.int .i64)]
noncomputable def iinRange (a0 : Int) (a1 : Int) (a2 : Int) : Bool := (cond (decide (a0 ≥ a1)) (decide (a0 ≤ a2)) false)
noncomputable abbrev e_iinRange (r : Bool) : AV × List AObj := ((.t true .bool r), [])
noncomputable abbrev g_iinRange : pshsDen P_iinRange → AV × List AObj := fun d => e_iinRange (iinRange d.1 d.2.1 d.2.2.1)
noncomputable abbrev pre_iinRange : pshsDen P_iinRange → Bool := fun d => true
theorem runA_iinRange (a0 : Int) (a1 : Int) (a2 : Int) : runP true Try.prog tt S29 QF29 (fun _ _ => none) Try.f89 (argsMk P_iinRange (a0, (a1, (a2, ())))) = some (g_iinRange (a0, (a1, (a2, ())))) := by
  refine Eq.trans (b := (cond (decide (a0 ≥ a1)) (some (e_iinRange (decide (a0 ≤ a2)))) (some (e_iinRange false)))) (by kernel_rfl) ?_
  exact (cnd (F := fun r => some (e_iinRange r)) (fun _h => rfl) (fun _h => rfl))
theorem run_iinRange : ∀ d, pre_iinRange d = true → runP true Try.prog tt S29 QF29 (fun _ _ => none) Try.f89 (argsMk P_iinRange d) = some (g_iinRange d) := fun d hp => runA_iinRange d.1 d.2.1 d.2.2.1
theorem c_iinRange : PContract Try.prog 89 (sumOf P_iinRange pre_iinRange g_iinRange) := PContract.of_data true G29 (fn := Try.f89) (by kernel_rfl) (L := fun _ _ => none) (by rw [show loopsIn 0 (bodyOf Try.f89) = [] by kernel_rfl]; simp) P_iinRange pre_iinRange g_iinRange run_iinRange
noncomputable def S30 : Tab := Tab.add S29 89 (lift (sumOf P_iinRange pre_iinRange g_iinRange))
noncomputable def QF30 : FuncId → Bool := qadd QF29 89
theorem G30 : Good Try.prog tt S30 QF30 := G29.addQ c_iinRange ⟨Try.f89, by kernel_rfl, by kernel_rfl, by kernel_rfl⟩ (fun _ => rfl)


end Go.Proofs.Ytoddiofedjnapaa.Eng
