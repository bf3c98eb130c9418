/- What the functions that FnOps reaches compute, and that it answers true. -/
import Derived.Test.YtoddiofedjnapaaT
import Derived.Test.YtoddiofedjnapaaRows
namespace Go.Proofs.Ytoddiofedjnapaa.Eng
open Go Go.RowKit
set_option linter.unusedSimpArgs false
set_option linter.unusedVariables false
set_option maxRecDepth 10000
noncomputable def S0 : Tab := fun _ => none
noncomputable def QF0 : FuncId → Bool := fun _ => false
theorem G0 : Good Try.prog tt S0 QF0 := Good.start tt_ok (by kernel_rfl)
/-! Plain laws: order of bytes, keys, ops. -/
theorem bytesLess_irrefl : ∀ a : List UInt8, Op.bytesLess a a = false := by
  intro a
  induction a with
  | nil => rfl
  | cons x a ih => simp only [Op.bytesLess, ih, Bool.and_false, Bool.or_false, decide_eq_false_iff_not]; exact UInt8.lt_irrefl x
theorem bytesLess_ge : ∀ a b : List UInt8, (!(Op.bytesLess a b)) = (Op.bytesLess b a || b == a) := by
  intro a
  induction a with
  | nil => intro b; cases b <;> simp [Op.bytesLess]
  | cons x a ih =>
    intro b
    cases b with
    | nil => simp [Op.bytesLess]
    | cons y b =>
      simp only [Op.bytesLess]
      by_cases h1 : x < y
      · have h2 : ¬ y < x := fun h => UInt8.lt_irrefl _ (UInt8.lt_trans h1 h)
        have h3 : (y == x) = false := by rw [beq_eq_false_iff_ne]; intro h; subst h; exact h2 h1
        have h4 : (y :: b == x :: a) = false := by rw [List.cons_beq_cons, h3, Bool.false_and]
        simp [h1, h2, h3, h4]
      · by_cases h5 : x = y
        · subst h5
          have h6 : (x :: b == x :: a) = (b == a) := by rw [List.cons_beq_cons]; simp
          have := ih b
          simp only [h1, decide_false, Bool.false_or, beq_self_eq_true, Bool.true_and, h6, this]
        · have h7 : y < x := by
            rcases Nat.lt_trichotomy x.toNat y.toNat with h | h | h
            · exact absurd (UInt8.lt_iff_toNat_lt.2 h) h1
            · exact absurd (UInt8.toNat_inj.1 h) h5
            · exact UInt8.lt_iff_toNat_lt.2 h
          have h8 : (x == y) = false := by rw [beq_eq_false_iff_ne]; exact h5
          simp [h1, h7, h8]
theorem allF_congr {p q : Nat → Bool} : ∀ k i, (∀ j, i ≤ j → j < i + k → p j = q j) → allF p k i = allF q k i := by
  intro k
  induction k with
  | zero => intro i h; rfl
  | succ k ih => intro i h; simp only [allF]; rw [h i (Nat.le_refl _) (by omega), ih (i + 1) (fun j h1 h2 => h j (by omega) (by omega))]
theorem allF_same {p : Nat → Bool} (k i : Nat) (h : ∀ j, i ≤ j → j < i + k → p j = true) : allF p k i = true := (allF_true k i).2 h
theorem szN_all {f : Nat → Int → Int} {Q : Nat → Prop} {M : Int} : ∀ (k i : Nat) (b : Int), (∀ j b, i ≤ j → j < i + k → 0 ≤ b → b ≤ M → 0 ≤ f j b → Q j ∧ f j b ≤ b) → 0 ≤ b → b ≤ M → isInl (szN f k i b) = true →
    (∀ j, i ≤ j → j < i + k → Q j) ∧ 0 ≤ getInl (-1) (szN f k i b) ∧ getInl (-1) (szN f k i b) ≤ b := by
  intro k
  induction k with
  | zero => intro i b hf h1 h2 h3; exact ⟨fun j hj hk => by omega, h1, Int.le_refl _⟩
  | succ k ih =>
    intro i b hf h1 h2 h3
    have e : szN f (k + 1) i b = cond (decide (f i b < 0)) (.inr ()) (szN f k (i + 1) (f i b)) := by
      simp only [szN, loopN]
      cases decide (f i b < 0) <;> rfl
    rw [e] at h3 ⊢
    cases hd : decide (f i b < 0) with
    | true => rw [hd] at h3; cases h3
    | false =>
      rw [hd] at h3
      simp only [cond_false] at h3 ⊢
      have h0 : 0 ≤ f i b := by have := of_decide_eq_false hd; omega
      obtain ⟨q1, q2⟩ := hf i b (Nat.le_refl _) (by omega) h1 h2 h0
      obtain ⟨r1, r2, r3⟩ := ih (i + 1) (f i b) (fun j b hj hk => hf j b (by omega) (by omega)) h0 (by omega) h3
      refine ⟨fun j hj hk => ?_, r2, by omega⟩
      by_cases ej : j = i
      · exact ej ▸ q1
      · exact r1 j (by omega) (by omega)
noncomputable abbrev OpT : Type := Int × ByteArray × ByteArray
noncomputable def dOp : Int × ByteArray × ByteArray := ((0 : Int), ((⟨#[]⟩ : ByteArray), (⟨#[]⟩ : ByteArray)))
noncomputable def okOp (o : Int × ByteArray × ByteArray) : Bool := okS o.2.1 && okS o.2.2
noncomputable def okOps (l : List (Int × ByteArray × ByteArray)) : Bool := okL l && l.all okOp
theorem okOps_at {l : List (Int × ByteArray × ByteArray)} (h : okOps l = true) (i : Nat) (hi : i < l.length) : okS (l.getD i dOp).2.1 = true ∧ okS (l.getD i dOp).2.2 = true := by
  simp only [okOps, Bool.and_eq_true, List.all_eq_true] at h
  have := h.2 (l.getD i dOp) (by simp [List.getD_eq_getElem?_getD, hi])
  simpa [okOp] using this
theorem okOps_len {l : List (Int × ByteArray × ByteArray)} (h : okOps l = true) : l.length ≤ 1048576 := by
  simp only [okOps, Bool.and_eq_true] at h
  exact okL_le h.1
noncomputable def bigS (s : ByteArray) : Bool := decide (s.size ≤ 9223372036854775807)
noncomputable def bigOps (l : List (Int × ByteArray × ByteArray)) : Bool := decide (l.length ≤ 9223372036854775807) && l.all (fun o => bigS o.2.1 && bigS o.2.2)
theorem bigOps_at {l : List (Int × ByteArray × ByteArray)} (h : bigOps l = true) (i : Nat) (hi : i < l.length) : bigS (l.getD i dOp).2.1 = true ∧ bigS (l.getD i dOp).2.2 = true := by
  simp only [bigOps, Bool.and_eq_true, List.all_eq_true] at h
  exact h.2 (l.getD i dOp) (by simp [List.getD_eq_getElem?_getD, hi])
theorem okOps_of {l : List (Int × ByteArray × ByteArray)} (h1 : l.length ≤ 1048576) (h2 : ∀ i, i < l.length → okS (l.getD i dOp).2.1 = true ∧ okS (l.getD i dOp).2.2 = true) : okOps l = true := by
  simp only [okOps, okL, Bool.and_eq_true, decide_eq_true_eq, List.all_eq_true]
  refine ⟨h1, fun o ho => ?_⟩
  obtain ⟨i, hi, rfl⟩ := List.getElem_of_mem ho
  have := h2 i hi
  simp only [List.getD_eq_getElem?_getD, List.getElem?_eq_getElem hi, Option.getD_some] at this
  simp [okOp, this.1, this.2]
theorem ba_beq (a b : ByteArray) : (a.toList == b.toList) = decide (a = b) := by
  rw [ByteArray.toList_eq, ByteArray.toList_eq]
  by_cases h : a = b
  · subst h; simp
  · rw [decide_eq_false h, beq_eq_false_iff_ne]
    intro e
    exact h (by cases a; cases b; simp at e; rw [e])
theorem bigOps_len {l : List (Int × ByteArray × ByteArray)} (h : bigOps l = true) : l.length ≤ 9223372036854775807 := by
  simp only [bigOps, Bool.and_eq_true, decide_eq_true_eq] at h; exact h.1
theorem okOps_okL {l : List (Int × ByteArray × ByteArray)} (h : okOps l = true) : okL l = true := by
  simp only [okOps, Bool.and_eq_true] at h; exact h.1
theorem bigOps_of {l : List (Int × ByteArray × ByteArray)} (h : bigT (.sl (.pair (.int .i64) (.pair .str .str))) l = true) : bigOps l = true := by
  have h : (decide (l.length ≤ maxLen) && l.all fun o => (Lit.int .i64 o.1).wf && (decide (o.2.1.size ≤ maxLen) && decide (o.2.2.size ≤ maxLen))) = true := h
  have hm : maxLen = 9223372036854775807 := by decide
  rw [hm] at h
  simp only [Bool.and_eq_true, decide_eq_true_eq, List.all_eq_true] at h
  simp only [bigOps, bigS, Bool.and_eq_true, decide_eq_true_eq, List.all_eq_true]
  exact ⟨h.1, fun o ho => (h.2 o ho).2⟩
theorem bigRec_ops {k t : Int} {l : List (Int × ByteArray × ByteArray)} (h : bigT (.pair (.int .i64) (.pair (.int .i64) (.sl (.pair (.int .i64) (.pair .str .str))))) (k, (t, l)) = true) : bigOps l = true := by
  have hb : ((Lit.int .i64 k).wf && ((Lit.int .i64 t).wf && bigT (.sl (.pair (.int .i64) (.pair .str .str))) l)) = true := h
  rw [Bool.and_eq_true, Bool.and_eq_true] at hb
  exact bigOps_of hb.2.2
/-- The high groups of a number, and what is left. -/
noncomputable def hiF (g : Int → Int) : Nat → Int → List Int × Int
  | 0, x => ([], x)
  | k + 1, x => cond (decide (x > 127)) (g x :: (hiF g k (Int.fdiv x (2 ^ 7))).1, (hiF g k (Int.fdiv x (2 ^ 7))).2) ([], x)
theorem fdiv128 (x : Int) : Int.fdiv x (2 ^ 7) = x / 128 := by
  rw [show (2 : Int) ^ 7 = 128 from rfl, Int.fdiv_eq_ediv_of_nonneg _ (by decide)]
theorem hiF_small (g : Int → Int) (k : Nat) : ∀ x : Int, 0 ≤ x → x < 128 ^ (k + 1) → 0 ≤ (hiF g k x).2 ∧ (hiF g k x).2 ≤ 127 := by
  induction k with
  | zero => intro x h0 h1; simp only [hiF]; exact ⟨h0, by rw [show (128 : Int) ^ (0 + 1) = 128 from rfl] at h1; omega⟩
  | succ k ih =>
    intro x h0 h1
    simp only [hiF]
    by_cases hx : x > 127
    · simp only [decide_eq_true hx, cond_true, fdiv128]
      rw [Int.pow_succ] at h1
      exact ih (x / 128) (by omega) (by omega)
    · simp only [decide_eq_false hx, cond_false]
      exact ⟨h0, by omega⟩
theorem hiF_len (g : Int → Int) (k : Nat) : ∀ x : Int, (hiF g k x).1.length ≤ k := by
  induction k with
  | zero => intro x; simp [hiF]
  | succ k ih =>
    intro x
    simp only [hiF]
    cases decide (x > 127) with
    | true => simp; exact ih _
    | false => simp
noncomputable def gNum (x : Int) : Int := IntKind.wrap .u8 (ior .i64 (iand .i64 x (127 : Int)) (128 : Int))
noncomputable def gNum' (x : Int) : Int := IntKind.wrap .u8 (ior .i64 (128 : Int) (iand .i64 x (127 : Int)))
theorem gNum_same : gNum' = gNum := by
  funext x
  simp only [gNum, gNum', ior]
  rw [BitVec.or_comm]
theorem nX_is : ∃ f : Int → List Int × Int, ∀ x, f x = hiF gNum 4 x := ⟨_, fun _ => rfl⟩
/-- The same, not to be unfolded. -/
noncomputable def nX : Int → List Int × Int := Classical.choose nX_is
theorem nX_eq (x : Int) : nX x = hiF gNum 4 x := Classical.choose_spec nX_is x
theorem nX_eq' (x : Int) : nX x = hiF gNum' 4 x := by rw [gNum_same]; exact nX_eq x
theorem nX_len (x : Int) : (nX x).1.length ≤ 4 := by rw [nX_eq]; exact hiF_len gNum 4 x
/-- The bytes of a number. -/
noncomputable def numB (x : Int) : List Int := (nX x).1 ++ [IntKind.wrap .u8 (nX x).2]
theorem numB_len (x : Int) : (numB x).length ≤ 5 := by
  have := nX_len x
  simp [numB]; omega
noncomputable def clampN (n : Int) : Int := if n > 1000000000 then 1000000000 else if n < 0 then 0 else n
noncomputable def textB (s : ByteArray) : List Int := numB (s.size : Int) ++ strInts s
noncomputable def opB (o : Int × ByteArray × ByteArray) : List Int := numB (clampN o.1) ++ (textB o.2.1 ++ textB o.2.2)
theorem clampN_of {n : Int} (h0 : 0 ≤ n) (h1 : n ≤ 1000000000) : clampN n = n := by simp only [clampN]; split <;> (try split) <;> omega
theorem strInts_len (s : ByteArray) : (strInts s).length = s.size := by rw [strInts, List.length_map, Array.length_toList]; rfl
theorem textB_len (s : ByteArray) : (textB s).length ≤ 5 + s.size := by
  have := numB_len (s.size : Int)
  simp [textB, strInts_len]; omega

noncomputable def clampI (x : Int) : Int := if (if (1000000000 : Int) < x then (1000000000 : Int) else x) > (0 : Int) then (if (1000000000 : Int) < x then (1000000000 : Int) else x) else (0 : Int)
theorem clampI_eq (x : Int) : clampI x = clampN x := by
  simp only [clampI, clampN]
  split <;> split <;> (try split) <;> omega
theorem clampN_range (x : Int) : 0 ≤ clampN x ∧ clampN x ≤ 1000000000 := by
  simp only [clampN]
  split <;> (try split) <;> omega
theorem clampI_range (x : Int) : 0 ≤ clampI x ∧ clampI x ≤ 1000000000 := by rw [clampI_eq]; exact clampN_range x

noncomputable def digB (x : Int) : ByteArray := (⟨([IntKind.wrap .u8 (IntKind.wrap .i64 ((48 : Int) + (Int.tmod x (10 : Int))))].map fun n => UInt8.ofNat n.toNat).toArray⟩ : ByteArray)
theorem digB_size (x : Int) : (digB x).size = 1 := rfl
/-- A number's digits. -/
noncomputable def txtN : Nat → Int → ByteArray → ByteArray
  | 0, _, s => s
  | k + 1, x, s => cond (decide (x > 0)) (txtN k (IntKind.wrap .i64 (Int.tdiv x (10 : Int))) (digB x ++ s)) s
theorem txtN_len : ∀ (k : Nat) (x : Int) (s : ByteArray), (txtN k x s).size ≤ k + s.size := by
  intro k
  induction k with
  | zero => intro x s; simp [txtN]
  | succ k ih =>
    intro x s
    simp only [txtN]
    cases decide (x > 0) with
    | true =>
      have := ih (IntKind.wrap .i64 (Int.tdiv x (10 : Int))) (digB x ++ s)
      rw [ByteArray.size_append, digB_size] at this
      simp only [cond_true]; omega
    | false => simp only [cond_false]; omega
theorem foldN_app {α : Type} (f : α → List Int) (d : α) (l : List α) (g : Nat → List Int → List Int) (hg : ∀ i h, i < l.length → g i h = h ++ f (l.getD i d)) : ∀ k i h, i + k = l.length → foldN g k i h = h ++ ((l.drop i).map f).flatten := by
  intro k
  induction k with
  | zero =>
    intro i h hi
    have : l.drop i = [] := List.drop_eq_nil_of_le (by omega)
    simp [foldN, this]
  | succ k ih =>
    intro i h hi
    have hlt : i < l.length := by omega
    simp only [foldN]
    rw [ih (i + 1) (g i h) (by omega), hg i h hlt, List.append_assoc, show l.drop i = l[i] :: l.drop (i + 1) from List.drop_eq_getElem_cons hlt, List.map_cons, List.flatten_cons, show l.getD i d = l[i] from by simp [List.getD_eq_getElem?_getD, hlt]]
theorem opB_len (o : Int × ByteArray × ByteArray) : (opB o).length ≤ 15 + o.2.1.size + o.2.2.size := by
  have h1 := numB_len (clampN o.1)
  have h2 := textB_len o.2.1
  have h3 := textB_len o.2.2
  simp only [opB, List.length_append]; omega
theorem flat_len {M : Nat} : ∀ l : List (Int × ByteArray × ByteArray), (∀ o ∈ l, (opB o).length ≤ M) → (l.map opB).flatten.length ≤ M * l.length := by
  intro l
  induction l with
  | nil => intro _; simp
  | cons o l ih =>
    intro h
    have h1 := h o (by simp)
    have h2 := ih fun x hx => h x (by simp [hx])
    simp only [List.map_cons, List.flatten_cons, List.length_append, List.length_cons]
    rw [Nat.mul_add]; omega
theorem okOps_mem {l : List (Int × ByteArray × ByteArray)} (h : okOps l = true) : ∀ o ∈ l, o.2.1.size ≤ 1048576 ∧ o.2.2.size ≤ 1048576 := by
  intro o ho
  simp only [okOps, Bool.and_eq_true, List.all_eq_true] at h
  have := h.2 o ho
  simpa [okOp, okS] using this

/-! 52 loop.example/g00244/laws.big -/
noncomputable abbrev P_lbig : List PSh := [.t (.sl (.int .u8))]
noncomputable def lbig (a0 : List Int) : Bool := (decide (((a0.length : Nat) : Int) > (1048576 : Int)))
noncomputable abbrev e_lbig (r : Bool) : AV × List AObj := ((.t true .bool r), [])
noncomputable abbrev g_lbig : pshsDen P_lbig → AV × List AObj := fun d => e_lbig (lbig d.1)
noncomputable abbrev pre_lbig : pshsDen P_lbig → Bool := fun d => true
theorem runA_lbig (a0 : List Int) : runP true Try.prog tt S0 QF0 (fun _ _ => none) Try.f52 (argsMk P_lbig (a0, ())) = some (g_lbig (a0, ())) := by
  kernel_rfl
theorem run_lbig : ∀ d, pre_lbig d = true → runP true Try.prog tt S0 QF0 (fun _ _ => none) Try.f52 (argsMk P_lbig d) = some (g_lbig d) := fun d hp => runA_lbig d.1
theorem c_lbig : PContract Try.prog 52 (sumOf P_lbig pre_lbig g_lbig) := PContract.of_data true G0 (fn := Try.f52) (by kernel_rfl) (L := fun _ _ => none) (by rw [show loopsIn 0 (bodyOf Try.f52) = [] by kernel_rfl]; simp) P_lbig pre_lbig g_lbig run_lbig
noncomputable def S1 : Tab := Tab.add S0 52 (lift (sumOf P_lbig pre_lbig g_lbig))
noncomputable def QF1 : FuncId → Bool := qadd QF0 52
theorem G1 : Good Try.prog tt S1 QF1 := G0.addQ c_lbig ⟨Try.f52, by kernel_rfl, by kernel_rfl, by kernel_rfl⟩ (fun _ => rfl)

/-! 113 loop.example/g00244/spec.l1New -/
noncomputable abbrev SM_sl1New : SS := ⟨[.t false (.sl (.int .u8))], []⟩
noncomputable abbrev S_sl1New_0 : SS := ⟨[.t false (.sl (.int .u8)), .junk, .junk, .t true (.int .i64), .t true (.int .i64), .junk, .junk, .junk, .junk, .junk, .junk, .junk, .junk, .junk, .junk, .junk, .junk, .junk, .junk, .junk, .junk, .junk, .junk, .junk, .junk, .junk, .junk, .junk, .junk, .junk, .junk, .junk], []⟩
noncomputable abbrev E_sl1New_0_0 : SS := ⟨[.t false (.sl (.int .u8)), .junk, .junk, .t true (.int .i64), .junk, .junk, .junk, .junk, .junk, .junk, .junk, .junk, .junk, .junk, .junk, .junk, .junk, .junk, .junk, .junk, .junk, .junk, .junk, .junk, .junk, .junk, .junk, .junk, .junk, .junk, .junk, .junk], []⟩
noncomputable def st_sl1New_0 (x0 : List Int) (x3 : Int) (x4 : Int) : RT S_sl1New_0.den := (.br (decide (x4 < ((x0.length : Nat) : Int))) (.br (decide (x4 < (4000 : Int))) (.br (decide (0 ≤ x4 ∧ x4 < ((x0.length : Nat) : Int))) (.next ((x0, (), (), iand .i64 (IntKind.wrap .i64 ((IntKind.wrap .i64 ((IntKind.wrap .i64 (x3 * (137 : Int))) + (IntKind.wrap .i64 (x0.getD x4.toNat (0 : Int))))) + (11 : Int))) (1073741823 : Int), IntKind.wrap .i64 (x4 + (1 : Int)), (), (), (), (), (), (), (), (), (), (), (), (), (), (), (), (), (), (), (), (), (), (), (), (), (), (), (), ()), ())) .fail) (.done (.exit 0) E_sl1New_0_0 ((x0, (), (), x3, (), (), (), (), (), (), (), (), (), (), (), (), (), (), (), (), (), (), (), (), (), (), (), (), (), (), (), (), ()), ()))) (.done (.exit 0) E_sl1New_0_0 ((x0, (), (), x3, (), (), (), (), (), (), (), (), (), (), (), (), (), (), (), (), (), (), (), (), (), (), (), (), (), (), (), (), ()), ())))
noncomputable abbrev V_sl1New_0 := (List Int) × (Int) × (Int)
noncomputable abbrev A_sl1New_0 := Nat × (List Int) × (Int)
noncomputable def fl_sl1New_0 : A_sl1New_0 := (99, ([] : List Int), ((0 : Int) : Int))
noncomputable def ss_sl1New_0 (x0 : List Int) (x3 : Int) (x4 : Int) : V_sl1New_0 ⊕ A_sl1New_0 := (cond (decide (x4 < ((x0.length : Nat) : Int))) (cond (decide (x4 < (4000 : Int))) (cond (decide (0 ≤ x4 ∧ x4 < ((x0.length : Nat) : Int))) (.inl (x0, iand .i64 (IntKind.wrap .i64 ((IntKind.wrap .i64 ((IntKind.wrap .i64 (x3 * (137 : Int))) + (IntKind.wrap .i64 (x0.getD x4.toNat (0 : Int))))) + (11 : Int))) (1073741823 : Int), IntKind.wrap .i64 (x4 + (1 : Int)))) (.inr fl_sl1New_0)) (.inr (0, x0, x3))) (.inr (0, x0, x3)))
noncomputable def it_sl1New_0 (x0 : List Int) (x3 : Int) (x4 : Int) : A_sl1New_0 := itX (fun v : V_sl1New_0 => ss_sl1New_0 v.1 v.2.1 v.2.2) fl_sl1New_0 (x0, x3, x4)
noncomputable def ct_sl1New_0 (a : A_sl1New_0) : CT := (.br (a.1 == 0) (.done (.exit 0) E_sl1New_0_0 ((a.2.1, (), (), a.2.2, (), (), (), (), (), (), (), (), (), (), (), (), (), (), (), (), (), (), (), (), (), (), (), (), (), (), (), (), ()), ())) .fail)
noncomputable def T_sl1New_0 (x0 : List Int) (x3 : Int) (x4 : Int) : CT := ct_sl1New_0 (it_sl1New_0 x0 x3 x4)
noncomputable abbrev sp_sl1New_0 : S_sl1New_0.den → RT S_sl1New_0.den := fun d => st_sl1New_0 d.1.1 d.1.2.2.2.1 d.1.2.2.2.2.1
noncomputable abbrev pk_sl1New_0 (x0 : List Int) (x3 : Int) (x4 : Int) : S_sl1New_0.den := ((x0, (), (), x3, x4, (), (), (), (), (), (), (), (), (), (), (), (), (), (), (), (), (), (), (), (), (), (), (), (), (), (), (), ()), ())
noncomputable def body_sl1New_0 : Code := ((loopsIn 0 (bodyOf Try.f113)).getD 0 (0, .skip)).2
theorem R_sl1New_0 (x0 : List Int) (x3 : Int) (x4 : Int) : (T_sl1New_0 x0 x3 x4).val (D := S_sl1New_0.den) = .fail ∨ Runs sp_sl1New_0 (pk_sl1New_0 x0 x3 x4) (T_sl1New_0 x0 x3 x4).val := Runs.ofIt (step := sp_sl1New_0) (fun v : V_sl1New_0 => pk_sl1New_0 v.1 v.2.1 v.2.2) (ct := ct_sl1New_0) rfl (fun v => ((relB (relB (relB rfl rfl) rfl) rfl) : (st_sl1New_0 v.1 v.2.1 v.2.2).val = relS (fun v : V_sl1New_0 => pk_sl1New_0 v.1 v.2.1 v.2.2) ct_sl1New_0 (ss_sl1New_0 v.1 v.2.1 v.2.2))) (fun a => ((cendB (cendD (by simp)) cendF) : CEnd _ (ct_sl1New_0 a))) (x0, x3, x4)
theorem rd_sl1New_0 : ∀ d, execC Try.prog tt S1 QF1 (fun _ _ => none) 0 body_sl1New_0 (S_sl1New_0.st d 0 []) (fun e s' => some (e, S_sl1New_0.cutE (kepts [] [(0, [0, 3])]) e s')) = (sp_sl1New_0 d).opt 0 [] := by
  intro d
  kernel_rfl
noncomputable abbrev say_sl1New_0 : St → Option Tree := S_sl1New_0.say 0 [] [] (fun d => T_sl1New_0 d.1.1 d.1.2.2.2.1 d.1.2.2.2.2.1)
theorem lw_sl1New_0 : LoopWp Try.prog say_sl1New_0 body_sl1New_0 := SS.wp G1 (fun _ _ => none) (by rw [show loopsIn 0 body_sl1New_0 = [] by kernel_rfl]; simp) S_sl1New_0 0 [] (kepts [] [(0, [0, 3])]) [] sp_sl1New_0 rd_sl1New_0 _ (fun d => R_sl1New_0 d.1.1 d.1.2.2.2.1 d.1.2.2.2.2.1)
noncomputable def sl1New (x0 : List Int) : (List Int) × Int × Int := (((it_sl1New_0 x0 (IntKind.wrap .i64 ((381381 : Int) + ((x0.length : Nat) : Int))) (0 : Int)).2.1), (0 : Int), ((it_sl1New_0 x0 (IntKind.wrap .i64 ((381381 : Int) + ((x0.length : Nat) : Int))) (0 : Int)).2.2))
noncomputable abbrev e_sl1New (r : (List Int) × Int × Int) : AV × List AObj × List Nat := ((.ptr 0 0 1 0), [(.box [(.t false (.sl (.int .u8)) r.1), (.t true (.int .i64) r.2.1), (.t true (.int .i64) r.2.2)])], [])
noncomputable abbrev g_sl1New : SM_sl1New.den → AV × List AObj × List Nat := fun d => e_sl1New (sl1New d.1.1)
noncomputable def q_sl1New (x0 : List Int) : Bool := ((it_sl1New_0 x0 (IntKind.wrap .i64 ((381381 : Int) + ((x0.length : Nat) : Int))) (0 : Int)).1 == 0)
noncomputable abbrev pre_sl1New : SM_sl1New.den → Bool := fun d => q_sl1New d.1.1
theorem runA_sl1New (x0 : List Int) (hp : (((it_sl1New_0 x0 (IntKind.wrap .i64 ((381381 : Int) + ((x0.length : Nat) : Int))) (0 : Int)).1 == 0)) = true) : runM Try.prog tt S1 QF1 (fun b => match b with | 0 => say_sl1New_0 | _ => fun _ => none) Try.f113 (shsMk SM_sl1New.sl (((x0, ()), ()) : SM_sl1New.den).1) (ohsMk SM_sl1New.hp (((x0, ()), ()) : SM_sl1New.den).2) = some (g_sl1New ((x0, ()), ())) := by
  refine Eq.trans (b := (cond ((it_sl1New_0 x0 (IntKind.wrap .i64 ((381381 : Int) + ((x0.length : Nat) : Int))) (0 : Int)).1 == 0) (some (e_sl1New (((it_sl1New_0 x0 (IntKind.wrap .i64 ((381381 : Int) + ((x0.length : Nat) : Int))) (0 : Int)).2.1), (0 : Int), ((it_sl1New_0 x0 (IntKind.wrap .i64 ((381381 : Int) + ((x0.length : Nat) : Int))) (0 : Int)).2.2)))) none)) (by kernel_rfl) ?_
  exact (cndT hp (fun _h => rfl))
theorem run_sl1New : ∀ d : SM_sl1New.den, pre_sl1New d = true → runM Try.prog tt S1 QF1 (fun b => match b with | 0 => say_sl1New_0 | _ => fun _ => none) Try.f113 (shsMk SM_sl1New.sl (d : SM_sl1New.den).1) (ohsMk SM_sl1New.hp (d : SM_sl1New.den).2) = some (g_sl1New d) := fun d hp => runA_sl1New d.1.1 hp
theorem c_sl1New : MContract Try.prog 113 (win winIds (msum SM_sl1New pre_sl1New g_sl1New)) := (MContract.of_data G1 (fn := Try.f113) (by kernel_rfl) (L := fun b => match b with | 0 => say_sl1New_0 | _ => fun _ => none) (by rw [show loopsIn 0 (bodyOf Try.f113) = [(0, body_sl1New_0)] by kernel_rfl]; intro p hp; simp only [List.mem_singleton] at hp; subst hp; exact lw_sl1New_0) SM_sl1New pre_sl1New g_sl1New run_sl1New).win winIds
noncomputable def S2 : Tab := Tab.add S1 113 (win winIds (msum SM_sl1New pre_sl1New g_sl1New))
noncomputable def QF2 : FuncId → Bool := QF1
theorem G2 : Good Try.prog tt S2 QF2 := G1.addM c_sl1New (win_local _) ⟨Try.f113, by kernel_rfl, by kernel_rfl, by kernel_rfl⟩ (by kernel_rfl)

/-! 147 loop.example/g00244/spec.l1Byte -/
noncomputable abbrev SM_sl1Byte : SS := ⟨[.ptr 0 0 1 0], [.box [.t false (.sl (.int .u8)), .t true (.int .i64), .t true (.int .i64)]]⟩
noncomputable def sl1Byte (h0_0 : List Int) (h0_1 : Int) (h0_2 : Int) : Int × (List Int) × Int × Int := (cond (decide (h0_1 < ((h0_0.length : Nat) : Int))) (iand .i64 (IntKind.wrap .i64 ((iand .i64 (ixor .i64 (Int.fdiv (IntKind.wrap .i64 ((IntKind.wrap .i64 (h0_2 * (6364136223846793005 : Int))) + (1442695040888963407 : Int))) (2 ^ (33))) (Int.fdiv (IntKind.wrap .i64 ((IntKind.wrap .i64 (h0_2 * (6364136223846793005 : Int))) + (1442695040888963407 : Int))) (2 ^ (47)))) (255 : Int)) + (IntKind.wrap .i64 (h0_0.getD h0_1.toNat (0 : Int))))) (255 : Int), h0_0, IntKind.wrap .i64 (h0_1 + (1 : Int)), IntKind.wrap .i64 ((IntKind.wrap .i64 (h0_2 * (6364136223846793005 : Int))) + (1442695040888963407 : Int))) (iand .i64 (ixor .i64 (Int.fdiv (IntKind.wrap .i64 ((IntKind.wrap .i64 (h0_2 * (6364136223846793005 : Int))) + (1442695040888963407 : Int))) (2 ^ (33))) (Int.fdiv (IntKind.wrap .i64 ((IntKind.wrap .i64 (h0_2 * (6364136223846793005 : Int))) + (1442695040888963407 : Int))) (2 ^ (47)))) (255 : Int), h0_0, h0_1, IntKind.wrap .i64 ((IntKind.wrap .i64 (h0_2 * (6364136223846793005 : Int))) + (1442695040888963407 : Int))))
noncomputable abbrev e_sl1Byte (r : Int × (List Int) × Int × Int) : AV × List AObj × List Nat := ((.t true (.int .i64) r.1), [(.box [(.t false (.sl (.int .u8)) r.2.1), (.t true (.int .i64) r.2.2.1), (.t true (.int .i64) r.2.2.2)])], [])
noncomputable abbrev g_sl1Byte : SM_sl1Byte.den → AV × List AObj × List Nat := fun d => e_sl1Byte (sl1Byte d.2.1.1 d.2.1.2.1 d.2.1.2.2.1)
noncomputable def q_sl1Byte (h0_0 : List Int) (h0_1 : Int) (h0_2 : Int) : Bool := cond (decide (h0_1 < ((h0_0.length : Nat) : Int))) (decide (0 ≤ h0_1 ∧ h0_1 < ((h0_0.length : Nat) : Int))) true
noncomputable abbrev pre_sl1Byte : SM_sl1Byte.den → Bool := fun d => q_sl1Byte d.2.1.1 d.2.1.2.1 d.2.1.2.2.1
theorem runA_sl1Byte (h0_0 : List Int) (h0_1 : Int) (h0_2 : Int) (hp : (cond (decide (h0_1 < ((h0_0.length : Nat) : Int))) (decide (0 ≤ h0_1 ∧ h0_1 < ((h0_0.length : Nat) : Int))) true) = true) : runM Try.prog tt S2 QF2 (fun _ _ => none) Try.f147 (shsMk SM_sl1Byte.sl ((((), ()), ((h0_0, h0_1, h0_2, ()), ())) : SM_sl1Byte.den).1) (ohsMk SM_sl1Byte.hp ((((), ()), ((h0_0, h0_1, h0_2, ()), ())) : SM_sl1Byte.den).2) = some (g_sl1Byte (((), ()), ((h0_0, h0_1, h0_2, ()), ()))) := by
  refine Eq.trans (b := (cond (decide (h0_1 < ((h0_0.length : Nat) : Int))) (cond (decide (0 ≤ h0_1 ∧ h0_1 < ((h0_0.length : Nat) : Int))) (some (e_sl1Byte (iand .i64 (IntKind.wrap .i64 ((iand .i64 (ixor .i64 (Int.fdiv (IntKind.wrap .i64 ((IntKind.wrap .i64 (h0_2 * (6364136223846793005 : Int))) + (1442695040888963407 : Int))) (2 ^ (33))) (Int.fdiv (IntKind.wrap .i64 ((IntKind.wrap .i64 (h0_2 * (6364136223846793005 : Int))) + (1442695040888963407 : Int))) (2 ^ (47)))) (255 : Int)) + (IntKind.wrap .i64 (h0_0.getD h0_1.toNat (0 : Int))))) (255 : Int), h0_0, IntKind.wrap .i64 (h0_1 + (1 : Int)), IntKind.wrap .i64 ((IntKind.wrap .i64 (h0_2 * (6364136223846793005 : Int))) + (1442695040888963407 : Int))))) none) (some (e_sl1Byte (iand .i64 (ixor .i64 (Int.fdiv (IntKind.wrap .i64 ((IntKind.wrap .i64 (h0_2 * (6364136223846793005 : Int))) + (1442695040888963407 : Int))) (2 ^ (33))) (Int.fdiv (IntKind.wrap .i64 ((IntKind.wrap .i64 (h0_2 * (6364136223846793005 : Int))) + (1442695040888963407 : Int))) (2 ^ (47)))) (255 : Int), h0_0, h0_1, IntKind.wrap .i64 ((IntKind.wrap .i64 (h0_2 * (6364136223846793005 : Int))) + (1442695040888963407 : Int))))))) (by kernel_rfl) ?_
  exact (cndQ (F := fun r => some (e_sl1Byte r)) hp (fun hp => (cndT hp (fun _h => rfl))) (fun hp => rfl))
theorem run_sl1Byte : ∀ d : SM_sl1Byte.den, pre_sl1Byte d = true → runM Try.prog tt S2 QF2 (fun _ _ => none) Try.f147 (shsMk SM_sl1Byte.sl (d : SM_sl1Byte.den).1) (ohsMk SM_sl1Byte.hp (d : SM_sl1Byte.den).2) = some (g_sl1Byte d) := fun d hp => runA_sl1Byte d.2.1.1 d.2.1.2.1 d.2.1.2.2.1 hp
theorem c_sl1Byte : MContract Try.prog 147 (win winIds (msum SM_sl1Byte pre_sl1Byte g_sl1Byte)) := (MContract.of_data G2 (fn := Try.f147) (by kernel_rfl) (L := fun _ _ => none) (by rw [show loopsIn 0 (bodyOf Try.f147) = [] by kernel_rfl]; simp) SM_sl1Byte pre_sl1Byte g_sl1Byte run_sl1Byte).win winIds
noncomputable def S3 : Tab := Tab.add S2 147 (win winIds (msum SM_sl1Byte pre_sl1Byte g_sl1Byte))
noncomputable def QF3 : FuncId → Bool := QF2
theorem G3 : Good Try.prog tt S3 QF3 := G2.addM c_sl1Byte (win_local _) ⟨Try.f147, by kernel_rfl, by kernel_rfl, by kernel_rfl⟩ (by kernel_rfl)

/-! 116 loop.example/g00244/spec.l1Below -/
noncomputable abbrev SM_sl1Below : SS := ⟨[.ptr 0 0 1 0, .t true (.int .i64)], [.box [.t false (.sl (.int .u8)), .t true (.int .i64), .t true (.int .i64)]]⟩
noncomputable def k1_sl1Below (h0_0 : List Int) (h0_1 : Int) (h0_2 : Int) := sl1Byte ((sl1Byte h0_0 h0_1 h0_2).2.1) ((sl1Byte h0_0 h0_1 h0_2).2.2.1) ((sl1Byte h0_0 h0_1 h0_2).2.2.2)
noncomputable def k2_sl1Below (h0_0 : List Int) (h0_1 : Int) (h0_2 : Int) := sl1Byte ((k1_sl1Below h0_0 h0_1 h0_2).2.1) ((k1_sl1Below h0_0 h0_1 h0_2).2.2.1) ((k1_sl1Below h0_0 h0_1 h0_2).2.2.2)
noncomputable def sl1Below (x1 : Int) (h0_0 : List Int) (h0_1 : Int) (h0_2 : Int) : Int × (List Int) × Int × Int := (cond (decide (x1 ≤ (0 : Int))) ((0 : Int), h0_0, h0_1, h0_2) (cond (decide (x1 ≤ (256 : Int))) (Int.tmod ((sl1Byte h0_0 h0_1 h0_2).1) x1, ((sl1Byte h0_0 h0_1 h0_2).2.1), ((sl1Byte h0_0 h0_1 h0_2).2.2.1), ((sl1Byte h0_0 h0_1 h0_2).2.2.2)) (Int.tmod (IntKind.wrap .i64 ((IntKind.wrap .i64 ((IntKind.wrap .i64 (((sl1Byte h0_0 h0_1 h0_2).1) * (65536 : Int))) + (IntKind.wrap .i64 (((k1_sl1Below h0_0 h0_1 h0_2).1) * (256 : Int))))) + ((k2_sl1Below h0_0 h0_1 h0_2).1))) x1, ((k2_sl1Below h0_0 h0_1 h0_2).2.1), ((k2_sl1Below h0_0 h0_1 h0_2).2.2.1), ((k2_sl1Below h0_0 h0_1 h0_2).2.2.2))))
noncomputable abbrev e_sl1Below (r : Int × (List Int) × Int × Int) : AV × List AObj × List Nat := ((.t true (.int .i64) r.1), [(.box [(.t false (.sl (.int .u8)) r.2.1), (.t true (.int .i64) r.2.2.1), (.t true (.int .i64) r.2.2.2)])], [])
noncomputable abbrev g_sl1Below : SM_sl1Below.den → AV × List AObj × List Nat := fun d => e_sl1Below (sl1Below d.1.2.1 d.2.1.1 d.2.1.2.1 d.2.1.2.2.1)
noncomputable def q_sl1Below (x1 : Int) (h0_0 : List Int) (h0_1 : Int) (h0_2 : Int) : Bool := cond (decide (x1 ≤ (0 : Int))) true (cond (decide (x1 ≤ (256 : Int))) ((q_sl1Byte h0_0 h0_1 h0_2) && (decide (x1 ≠ 0))) ((q_sl1Byte h0_0 h0_1 h0_2) && ((q_sl1Byte ((sl1Byte h0_0 h0_1 h0_2).2.1) ((sl1Byte h0_0 h0_1 h0_2).2.2.1) ((sl1Byte h0_0 h0_1 h0_2).2.2.2)) && ((q_sl1Byte ((k1_sl1Below h0_0 h0_1 h0_2).2.1) ((k1_sl1Below h0_0 h0_1 h0_2).2.2.1) ((k1_sl1Below h0_0 h0_1 h0_2).2.2.2)) && (decide (x1 ≠ 0))))))
noncomputable abbrev pre_sl1Below : SM_sl1Below.den → Bool := fun d => q_sl1Below d.1.2.1 d.2.1.1 d.2.1.2.1 d.2.1.2.2.1
theorem runA_sl1Below (x1 : Int) (h0_0 : List Int) (h0_1 : Int) (h0_2 : Int) (hp : (cond (decide (x1 ≤ (0 : Int))) true (cond (decide (x1 ≤ (256 : Int))) ((q_sl1Byte h0_0 h0_1 h0_2) && (decide (x1 ≠ 0))) ((q_sl1Byte h0_0 h0_1 h0_2) && ((q_sl1Byte ((sl1Byte h0_0 h0_1 h0_2).2.1) ((sl1Byte h0_0 h0_1 h0_2).2.2.1) ((sl1Byte h0_0 h0_1 h0_2).2.2.2)) && ((q_sl1Byte ((k1_sl1Below h0_0 h0_1 h0_2).2.1) ((k1_sl1Below h0_0 h0_1 h0_2).2.2.1) ((k1_sl1Below h0_0 h0_1 h0_2).2.2.2)) && (decide (x1 ≠ 0))))))) = true) : runM Try.prog tt S3 QF3 (fun _ _ => none) Try.f116 (shsMk SM_sl1Below.sl ((((), x1, ()), ((h0_0, h0_1, h0_2, ()), ())) : SM_sl1Below.den).1) (ohsMk SM_sl1Below.hp ((((), x1, ()), ((h0_0, h0_1, h0_2, ()), ())) : SM_sl1Below.den).2) = some (g_sl1Below (((), x1, ()), ((h0_0, h0_1, h0_2, ()), ()))) := by
  refine Eq.trans (b := (cond (decide (x1 ≤ (0 : Int))) (some (e_sl1Below ((0 : Int), h0_0, h0_1, h0_2))) (cond (decide (x1 ≤ (256 : Int))) (cond (q_sl1Byte h0_0 h0_1 h0_2) (cond (decide (x1 ≠ 0)) (some (e_sl1Below (Int.tmod ((sl1Byte h0_0 h0_1 h0_2).1) x1, ((sl1Byte h0_0 h0_1 h0_2).2.1), ((sl1Byte h0_0 h0_1 h0_2).2.2.1), ((sl1Byte h0_0 h0_1 h0_2).2.2.2)))) none) none) (cond (q_sl1Byte h0_0 h0_1 h0_2) (cond (q_sl1Byte ((sl1Byte h0_0 h0_1 h0_2).2.1) ((sl1Byte h0_0 h0_1 h0_2).2.2.1) ((sl1Byte h0_0 h0_1 h0_2).2.2.2)) (cond (q_sl1Byte ((k1_sl1Below h0_0 h0_1 h0_2).2.1) ((k1_sl1Below h0_0 h0_1 h0_2).2.2.1) ((k1_sl1Below h0_0 h0_1 h0_2).2.2.2)) (cond (decide (x1 ≠ 0)) (some (e_sl1Below (Int.tmod (IntKind.wrap .i64 ((IntKind.wrap .i64 ((IntKind.wrap .i64 (((sl1Byte h0_0 h0_1 h0_2).1) * (65536 : Int))) + (IntKind.wrap .i64 (((k1_sl1Below h0_0 h0_1 h0_2).1) * (256 : Int))))) + ((k2_sl1Below h0_0 h0_1 h0_2).1))) x1, ((k2_sl1Below h0_0 h0_1 h0_2).2.1), ((k2_sl1Below h0_0 h0_1 h0_2).2.2.1), ((k2_sl1Below h0_0 h0_1 h0_2).2.2.2)))) none) none) none) none)))) (by kernel_rfl) ?_
  exact (cndQ (F := fun r => some (e_sl1Below r)) hp (fun hp => rfl) (fun hp => (cndQ (F := fun r => some (e_sl1Below r)) hp (fun hp => (cndT (andL hp) (fun _h => (fun hp => (cndT hp (fun _h => rfl))) (andR hp)))) (fun hp => (cndT (andL hp) (fun _h => (fun hp => (cndT (andL hp) (fun _h => (fun hp => (cndT (andL hp) (fun _h => (fun hp => (cndT hp (fun _h => rfl))) (andR hp)))) (andR hp)))) (andR hp)))))))
theorem run_sl1Below : ∀ d : SM_sl1Below.den, pre_sl1Below d = true → runM Try.prog tt S3 QF3 (fun _ _ => none) Try.f116 (shsMk SM_sl1Below.sl (d : SM_sl1Below.den).1) (ohsMk SM_sl1Below.hp (d : SM_sl1Below.den).2) = some (g_sl1Below d) := fun d hp => runA_sl1Below d.1.2.1 d.2.1.1 d.2.1.2.1 d.2.1.2.2.1 hp
theorem c_sl1Below : MContract Try.prog 116 (win winIds (msum SM_sl1Below pre_sl1Below g_sl1Below)) := (MContract.of_data G3 (fn := Try.f116) (by kernel_rfl) (L := fun _ _ => none) (by rw [show loopsIn 0 (bodyOf Try.f116) = [] by kernel_rfl]; simp) SM_sl1Below pre_sl1Below g_sl1Below run_sl1Below).win winIds
noncomputable def S4 : Tab := Tab.add S3 116 (win winIds (msum SM_sl1Below pre_sl1Below g_sl1Below))
noncomputable def QF4 : FuncId → Bool := QF3
theorem G4 : Good Try.prog tt S4 QF4 := G3.addM c_sl1Below (win_local _) ⟨Try.f116, by kernel_rfl, by kernel_rfl, by kernel_rfl⟩ (by kernel_rfl)

/-! 117 loop.example/g00244/spec.l1Int -/
noncomputable abbrev SM_sl1Int : SS := ⟨[.ptr 0 0 1 0, .all 1 1], [.box [.t false (.sl (.int .u8)), .t true (.int .i64), .t true (.int .i64)], .rows 3 true (.int .i64)]⟩
noncomputable def sl1Int (h0_0 : List Int) (h0_1 : Int) (h0_2 : Int) (h1 : List Int) : Int × (List Int) × Int × Int × List Int := (h1.getD (((sl1Below ((h1.length : Nat) : Int) h0_0 h0_1 h0_2).1).toNat) (0 : Int), ((sl1Below ((h1.length : Nat) : Int) h0_0 h0_1 h0_2).2.1), ((sl1Below ((h1.length : Nat) : Int) h0_0 h0_1 h0_2).2.2.1), ((sl1Below ((h1.length : Nat) : Int) h0_0 h0_1 h0_2).2.2.2), h1)
noncomputable abbrev e_sl1Int (r : Int × (List Int) × Int × Int × List Int) : AV × List AObj × List Nat := ((.t true (.int .i64) r.1), [(.box [(.t false (.sl (.int .u8)) r.2.1), (.t true (.int .i64) r.2.2.1), (.t true (.int .i64) r.2.2.2.1)]), (.rows 3 true (.int .i64) r.2.2.2.2)], [])
noncomputable abbrev g_sl1Int : SM_sl1Int.den → AV × List AObj × List Nat := fun d => e_sl1Int (sl1Int d.2.1.1 d.2.1.2.1 d.2.1.2.2.1 d.2.2.1)
noncomputable def q_sl1Int (h0_0 : List Int) (h0_1 : Int) (h0_2 : Int) (h1 : List Int) : Bool := (q_sl1Below ((h1.length : Nat) : Int) h0_0 h0_1 h0_2) && (decide (0 ≤ ((sl1Below ((h1.length : Nat) : Int) h0_0 h0_1 h0_2).1) ∧ ((sl1Below ((h1.length : Nat) : Int) h0_0 h0_1 h0_2).1) < ((h1.length : Nat) : Int)))
noncomputable abbrev pre_sl1Int : SM_sl1Int.den → Bool := fun d => q_sl1Int d.2.1.1 d.2.1.2.1 d.2.1.2.2.1 d.2.2.1
theorem runA_sl1Int (h0_0 : List Int) (h0_1 : Int) (h0_2 : Int) (h1 : List Int) (hp : ((q_sl1Below ((h1.length : Nat) : Int) h0_0 h0_1 h0_2) && (decide (0 ≤ ((sl1Below ((h1.length : Nat) : Int) h0_0 h0_1 h0_2).1) ∧ ((sl1Below ((h1.length : Nat) : Int) h0_0 h0_1 h0_2).1) < ((h1.length : Nat) : Int)))) = true) : runM Try.prog tt S4 QF4 (fun _ _ => none) Try.f117 (shsMk SM_sl1Int.sl ((((), (), ()), ((h0_0, h0_1, h0_2, ()), h1, ())) : SM_sl1Int.den).1) (ohsMk SM_sl1Int.hp ((((), (), ()), ((h0_0, h0_1, h0_2, ()), h1, ())) : SM_sl1Int.den).2) = some (g_sl1Int (((), (), ()), ((h0_0, h0_1, h0_2, ()), h1, ()))) := by
  refine Eq.trans (b := (cond (q_sl1Below ((h1.length : Nat) : Int) h0_0 h0_1 h0_2) (cond (decide (0 ≤ ((sl1Below ((h1.length : Nat) : Int) h0_0 h0_1 h0_2).1) ∧ ((sl1Below ((h1.length : Nat) : Int) h0_0 h0_1 h0_2).1) < ((h1.length : Nat) : Int))) (some (e_sl1Int (h1.getD (((sl1Below ((h1.length : Nat) : Int) h0_0 h0_1 h0_2).1).toNat) (0 : Int), ((sl1Below ((h1.length : Nat) : Int) h0_0 h0_1 h0_2).2.1), ((sl1Below ((h1.length : Nat) : Int) h0_0 h0_1 h0_2).2.2.1), ((sl1Below ((h1.length : Nat) : Int) h0_0 h0_1 h0_2).2.2.2), h1))) none) none)) (by kernel_rfl) ?_
  exact (cndT (andL hp) (fun _h => (fun hp => (cndT hp (fun _h => rfl))) (andR hp)))
theorem run_sl1Int : ∀ d : SM_sl1Int.den, pre_sl1Int d = true → runM Try.prog tt S4 QF4 (fun _ _ => none) Try.f117 (shsMk SM_sl1Int.sl (d : SM_sl1Int.den).1) (ohsMk SM_sl1Int.hp (d : SM_sl1Int.den).2) = some (g_sl1Int d) := fun d hp => runA_sl1Int d.2.1.1 d.2.1.2.1 d.2.1.2.2.1 d.2.2.1 hp
theorem c_sl1Int : MContract Try.prog 117 (win winIds (msum SM_sl1Int pre_sl1Int g_sl1Int)) := (MContract.of_data G4 (fn := Try.f117) (by kernel_rfl) (L := fun _ _ => none) (by rw [show loopsIn 0 (bodyOf Try.f117) = [] by kernel_rfl]; simp) SM_sl1Int pre_sl1Int g_sl1Int run_sl1Int).win winIds
noncomputable def S5 : Tab := Tab.add S4 117 (win winIds (msum SM_sl1Int pre_sl1Int g_sl1Int))
noncomputable def QF5 : FuncId → Bool := QF4
theorem G5 : Good Try.prog tt S5 QF5 := G4.addM c_sl1Int (win_local _) ⟨Try.f117, by kernel_rfl, by kernel_rfl, by kernel_rfl⟩ (by kernel_rfl)

/-! 159 loop.example/g00244/spec.l1Str -/
noncomputable abbrev SM_sl1Str : SS := ⟨[.ptr 0 0 1 0, .all 1 1], [.box [.t false (.sl (.int .u8)), .t true (.int .i64), .t true (.int .i64)], .rows 9 true .str]⟩
noncomputable def sl1Str (h0_0 : List Int) (h0_1 : Int) (h0_2 : Int) (h1 : List ByteArray) : ByteArray × (List Int) × Int × Int × List ByteArray := (h1.getD (((sl1Below ((h1.length : Nat) : Int) h0_0 h0_1 h0_2).1).toNat) (⟨#[]⟩ : ByteArray), ((sl1Below ((h1.length : Nat) : Int) h0_0 h0_1 h0_2).2.1), ((sl1Below ((h1.length : Nat) : Int) h0_0 h0_1 h0_2).2.2.1), ((sl1Below ((h1.length : Nat) : Int) h0_0 h0_1 h0_2).2.2.2), h1)
noncomputable abbrev e_sl1Str (r : ByteArray × (List Int) × Int × Int × List ByteArray) : AV × List AObj × List Nat := ((.t true .str r.1), [(.box [(.t false (.sl (.int .u8)) r.2.1), (.t true (.int .i64) r.2.2.1), (.t true (.int .i64) r.2.2.2.1)]), (.rows 9 true .str r.2.2.2.2)], [])
noncomputable abbrev g_sl1Str : SM_sl1Str.den → AV × List AObj × List Nat := fun d => e_sl1Str (sl1Str d.2.1.1 d.2.1.2.1 d.2.1.2.2.1 d.2.2.1)
noncomputable def q_sl1Str (h0_0 : List Int) (h0_1 : Int) (h0_2 : Int) (h1 : List ByteArray) : Bool := (q_sl1Below ((h1.length : Nat) : Int) h0_0 h0_1 h0_2) && (decide (0 ≤ ((sl1Below ((h1.length : Nat) : Int) h0_0 h0_1 h0_2).1) ∧ ((sl1Below ((h1.length : Nat) : Int) h0_0 h0_1 h0_2).1) < ((h1.length : Nat) : Int)))
noncomputable abbrev pre_sl1Str : SM_sl1Str.den → Bool := fun d => q_sl1Str d.2.1.1 d.2.1.2.1 d.2.1.2.2.1 d.2.2.1
theorem runA_sl1Str (h0_0 : List Int) (h0_1 : Int) (h0_2 : Int) (h1 : List ByteArray) (hp : ((q_sl1Below ((h1.length : Nat) : Int) h0_0 h0_1 h0_2) && (decide (0 ≤ ((sl1Below ((h1.length : Nat) : Int) h0_0 h0_1 h0_2).1) ∧ ((sl1Below ((h1.length : Nat) : Int) h0_0 h0_1 h0_2).1) < ((h1.length : Nat) : Int)))) = true) : runM Try.prog tt S5 QF5 (fun _ _ => none) Try.f159 (shsMk SM_sl1Str.sl ((((), (), ()), ((h0_0, h0_1, h0_2, ()), h1, ())) : SM_sl1Str.den).1) (ohsMk SM_sl1Str.hp ((((), (), ()), ((h0_0, h0_1, h0_2, ()), h1, ())) : SM_sl1Str.den).2) = some (g_sl1Str (((), (), ()), ((h0_0, h0_1, h0_2, ()), h1, ()))) := by
  refine Eq.trans (b := (cond (q_sl1Below ((h1.length : Nat) : Int) h0_0 h0_1 h0_2) (cond (decide (0 ≤ ((sl1Below ((h1.length : Nat) : Int) h0_0 h0_1 h0_2).1) ∧ ((sl1Below ((h1.length : Nat) : Int) h0_0 h0_1 h0_2).1) < ((h1.length : Nat) : Int))) (some (e_sl1Str (h1.getD (((sl1Below ((h1.length : Nat) : Int) h0_0 h0_1 h0_2).1).toNat) (⟨#[]⟩ : ByteArray), ((sl1Below ((h1.length : Nat) : Int) h0_0 h0_1 h0_2).2.1), ((sl1Below ((h1.length : Nat) : Int) h0_0 h0_1 h0_2).2.2.1), ((sl1Below ((h1.length : Nat) : Int) h0_0 h0_1 h0_2).2.2.2), h1))) none) none)) (by kernel_rfl) ?_
  exact (cndT (andL hp) (fun _h => (fun hp => (cndT hp (fun _h => rfl))) (andR hp)))
theorem run_sl1Str : ∀ d : SM_sl1Str.den, pre_sl1Str d = true → runM Try.prog tt S5 QF5 (fun _ _ => none) Try.f159 (shsMk SM_sl1Str.sl (d : SM_sl1Str.den).1) (ohsMk SM_sl1Str.hp (d : SM_sl1Str.den).2) = some (g_sl1Str d) := fun d hp => runA_sl1Str d.2.1.1 d.2.1.2.1 d.2.1.2.2.1 d.2.2.1 hp
theorem c_sl1Str : MContract Try.prog 159 (win winIds (msum SM_sl1Str pre_sl1Str g_sl1Str)) := (MContract.of_data G5 (fn := Try.f159) (by kernel_rfl) (L := fun _ _ => none) (by rw [show loopsIn 0 (bodyOf Try.f159) = [] by kernel_rfl]; simp) SM_sl1Str pre_sl1Str g_sl1Str run_sl1Str).win winIds
noncomputable def S6 : Tab := Tab.add S5 159 (win winIds (msum SM_sl1Str pre_sl1Str g_sl1Str))
noncomputable def QF6 : FuncId → Bool := QF5
theorem G6 : Good Try.prog tt S6 QF6 := G5.addM c_sl1Str (win_local _) ⟨Try.f159, by kernel_rfl, by kernel_rfl, by kernel_rfl⟩ (by kernel_rfl)

/-! 151 loop.example/g00244/spec.l3Key -/
noncomputable abbrev SM_sl3Key : SS := ⟨[.ptr 0 0 1 0], [.box [.t false (.sl (.int .u8)), .t true (.int .i64), .t true (.int .i64)]]⟩
noncomputable def k1_sl3Key (h0_0 : List Int) (h0_1 : Int) (h0_2 : Int) := sl1Str h0_0 h0_1 h0_2 ([(⟨#[97]⟩ : ByteArray), (⟨#[98]⟩ : ByteArray), (⟨#[99]⟩ : ByteArray), (⟨#[107, 49]⟩ : ByteArray), (⟨#[107, 50]⟩ : ByteArray), (⟨#[109]⟩ : ByteArray), (⟨#[122]⟩ : ByteArray)])
noncomputable def sl3Key (h0_0 : List Int) (h0_1 : Int) (h0_2 : Int) : ByteArray × (List Int) × Int × Int := (((k1_sl3Key h0_0 h0_1 h0_2).1), ((k1_sl3Key h0_0 h0_1 h0_2).2.1), ((k1_sl3Key h0_0 h0_1 h0_2).2.2.1), ((k1_sl3Key h0_0 h0_1 h0_2).2.2.2.1))
noncomputable abbrev e_sl3Key (r : ByteArray × (List Int) × Int × Int) : AV × List AObj × List Nat := ((.t true .str r.1), [(.box [(.t false (.sl (.int .u8)) r.2.1), (.t true (.int .i64) r.2.2.1), (.t true (.int .i64) r.2.2.2)])], [])
noncomputable abbrev g_sl3Key : SM_sl3Key.den → AV × List AObj × List Nat := fun d => e_sl3Key (sl3Key d.2.1.1 d.2.1.2.1 d.2.1.2.2.1)
noncomputable def q_sl3Key (h0_0 : List Int) (h0_1 : Int) (h0_2 : Int) : Bool := q_sl1Str h0_0 h0_1 h0_2 ([(⟨#[97]⟩ : ByteArray), (⟨#[98]⟩ : ByteArray), (⟨#[99]⟩ : ByteArray), (⟨#[107, 49]⟩ : ByteArray), (⟨#[107, 50]⟩ : ByteArray), (⟨#[109]⟩ : ByteArray), (⟨#[122]⟩ : ByteArray)])
noncomputable abbrev pre_sl3Key : SM_sl3Key.den → Bool := fun d => q_sl3Key d.2.1.1 d.2.1.2.1 d.2.1.2.2.1
theorem runA_sl3Key (h0_0 : List Int) (h0_1 : Int) (h0_2 : Int) (hp : (q_sl1Str h0_0 h0_1 h0_2 ([(⟨#[97]⟩ : ByteArray), (⟨#[98]⟩ : ByteArray), (⟨#[99]⟩ : ByteArray), (⟨#[107, 49]⟩ : ByteArray), (⟨#[107, 50]⟩ : ByteArray), (⟨#[109]⟩ : ByteArray), (⟨#[122]⟩ : ByteArray)])) = true) : runM Try.prog tt S6 QF6 (fun _ _ => none) Try.f151 (shsMk SM_sl3Key.sl ((((), ()), ((h0_0, h0_1, h0_2, ()), ())) : SM_sl3Key.den).1) (ohsMk SM_sl3Key.hp ((((), ()), ((h0_0, h0_1, h0_2, ()), ())) : SM_sl3Key.den).2) = some (g_sl3Key (((), ()), ((h0_0, h0_1, h0_2, ()), ()))) := by
  refine Eq.trans (b := (cond (q_sl1Str h0_0 h0_1 h0_2 ([(⟨#[97]⟩ : ByteArray), (⟨#[98]⟩ : ByteArray), (⟨#[99]⟩ : ByteArray), (⟨#[107, 49]⟩ : ByteArray), (⟨#[107, 50]⟩ : ByteArray), (⟨#[109]⟩ : ByteArray), (⟨#[122]⟩ : ByteArray)])) (some (e_sl3Key (((k1_sl3Key h0_0 h0_1 h0_2).1), ((k1_sl3Key h0_0 h0_1 h0_2).2.1), ((k1_sl3Key h0_0 h0_1 h0_2).2.2.1), ((k1_sl3Key h0_0 h0_1 h0_2).2.2.2.1)))) none)) (by kernel_rfl) ?_
  exact (cndT hp (fun _h => rfl))
theorem run_sl3Key : ∀ d : SM_sl3Key.den, pre_sl3Key d = true → runM Try.prog tt S6 QF6 (fun _ _ => none) Try.f151 (shsMk SM_sl3Key.sl (d : SM_sl3Key.den).1) (ohsMk SM_sl3Key.hp (d : SM_sl3Key.den).2) = some (g_sl3Key d) := fun d hp => runA_sl3Key d.2.1.1 d.2.1.2.1 d.2.1.2.2.1 hp
theorem c_sl3Key : MContract Try.prog 151 (win winIds (msum SM_sl3Key pre_sl3Key g_sl3Key)) := (MContract.of_data G6 (fn := Try.f151) (by kernel_rfl) (L := fun _ _ => none) (by rw [show loopsIn 0 (bodyOf Try.f151) = [] by kernel_rfl]; simp) SM_sl3Key pre_sl3Key g_sl3Key run_sl3Key).win winIds
noncomputable def S7 : Tab := Tab.add S6 151 (win winIds (msum SM_sl3Key pre_sl3Key g_sl3Key))
noncomputable def QF7 : FuncId → Bool := QF6
theorem G7 : Good Try.prog tt S7 QF7 := G6.addM c_sl3Key (win_local _) ⟨Try.f151, by kernel_rfl, by kernel_rfl, by kernel_rfl⟩ (by kernel_rfl)

/-! 145 loop.example/g00244/spec.l7Op1 -/
noncomputable abbrev SM_sl7Op1 : SS := ⟨[.ptr 0 0 1 0], [.box [.t false (.sl (.int .u8)), .t true (.int .i64), .t true (.int .i64)]]⟩
noncomputable def k1_sl7Op1 (h0_0 : List Int) (h0_1 : Int) (h0_2 : Int) := sl3Key ((sl1Int h0_0 h0_1 h0_2 [(1 : Int), (1 : Int), (1 : Int), (2 : Int), (3 : Int)]).2.1) ((sl1Int h0_0 h0_1 h0_2 [(1 : Int), (1 : Int), (1 : Int), (2 : Int), (3 : Int)]).2.2.1) ((sl1Int h0_0 h0_1 h0_2 [(1 : Int), (1 : Int), (1 : Int), (2 : Int), (3 : Int)]).2.2.2.1)
noncomputable def k2_sl7Op1 (h0_0 : List Int) (h0_1 : Int) (h0_2 : Int) := sl1Str ((k1_sl7Op1 h0_0 h0_1 h0_2).2.1) ((k1_sl7Op1 h0_0 h0_1 h0_2).2.2.1) ((k1_sl7Op1 h0_0 h0_1 h0_2).2.2.2) ([(⟨#[49]⟩ : ByteArray), (⟨#[50]⟩ : ByteArray), (⟨#[120]⟩ : ByteArray), (⟨#[]⟩ : ByteArray), (⟨#[49]⟩ : ByteArray)])
noncomputable def sl7Op1 (h0_0 : List Int) (h0_1 : Int) (h0_2 : Int) : Int × ByteArray × ByteArray × (List Int) × Int × Int × Int × ByteArray × ByteArray := (cond (((sl1Int h0_0 h0_1 h0_2 [(1 : Int), (1 : Int), (1 : Int), (2 : Int), (3 : Int)]).1) != (2 : Int)) (((sl1Int h0_0 h0_1 h0_2 [(1 : Int), (1 : Int), (1 : Int), (2 : Int), (3 : Int)]).1), ((k1_sl7Op1 h0_0 h0_1 h0_2).1), ((k2_sl7Op1 h0_0 h0_1 h0_2).1), ((k2_sl7Op1 h0_0 h0_1 h0_2).2.1), ((k2_sl7Op1 h0_0 h0_1 h0_2).2.2.1), ((k2_sl7Op1 h0_0 h0_1 h0_2).2.2.2.1), ((sl1Int h0_0 h0_1 h0_2 [(1 : Int), (1 : Int), (1 : Int), (2 : Int), (3 : Int)]).1), ((k1_sl7Op1 h0_0 h0_1 h0_2).1), ((k2_sl7Op1 h0_0 h0_1 h0_2).1)) (((sl1Int h0_0 h0_1 h0_2 [(1 : Int), (1 : Int), (1 : Int), (2 : Int), (3 : Int)]).1), ((k1_sl7Op1 h0_0 h0_1 h0_2).1), (⟨#[]⟩ : ByteArray), ((k1_sl7Op1 h0_0 h0_1 h0_2).2.1), ((k1_sl7Op1 h0_0 h0_1 h0_2).2.2.1), ((k1_sl7Op1 h0_0 h0_1 h0_2).2.2.2), ((sl1Int h0_0 h0_1 h0_2 [(1 : Int), (1 : Int), (1 : Int), (2 : Int), (3 : Int)]).1), ((k1_sl7Op1 h0_0 h0_1 h0_2).1), (⟨#[]⟩ : ByteArray)))
noncomputable abbrev e_sl7Op1 (r : Int × ByteArray × ByteArray × (List Int) × Int × Int × Int × ByteArray × ByteArray) : AV × List AObj × List Nat := ((.agg [(.t true (.int .i64) r.1), (.t true .str r.2.1), (.t true .str r.2.2.1)]), [(.box [(.t false (.sl (.int .u8)) r.2.2.2.1), (.t true (.int .i64) r.2.2.2.2.1), (.t true (.int .i64) r.2.2.2.2.2.1)]), (.box [(.t true (.int .i64) r.2.2.2.2.2.2.1), (.t true .str r.2.2.2.2.2.2.2.1), (.t true .str r.2.2.2.2.2.2.2.2)])], [])
noncomputable abbrev g_sl7Op1 : SM_sl7Op1.den → AV × List AObj × List Nat := fun d => e_sl7Op1 (sl7Op1 d.2.1.1 d.2.1.2.1 d.2.1.2.2.1)
noncomputable def q_sl7Op1 (h0_0 : List Int) (h0_1 : Int) (h0_2 : Int) : Bool := (q_sl1Int h0_0 h0_1 h0_2 [(1 : Int), (1 : Int), (1 : Int), (2 : Int), (3 : Int)]) && ((q_sl3Key ((sl1Int h0_0 h0_1 h0_2 [(1 : Int), (1 : Int), (1 : Int), (2 : Int), (3 : Int)]).2.1) ((sl1Int h0_0 h0_1 h0_2 [(1 : Int), (1 : Int), (1 : Int), (2 : Int), (3 : Int)]).2.2.1) ((sl1Int h0_0 h0_1 h0_2 [(1 : Int), (1 : Int), (1 : Int), (2 : Int), (3 : Int)]).2.2.2.1)) && (cond (((sl1Int h0_0 h0_1 h0_2 [(1 : Int), (1 : Int), (1 : Int), (2 : Int), (3 : Int)]).1) != (2 : Int)) (q_sl1Str ((k1_sl7Op1 h0_0 h0_1 h0_2).2.1) ((k1_sl7Op1 h0_0 h0_1 h0_2).2.2.1) ((k1_sl7Op1 h0_0 h0_1 h0_2).2.2.2) ([(⟨#[49]⟩ : ByteArray), (⟨#[50]⟩ : ByteArray), (⟨#[120]⟩ : ByteArray), (⟨#[]⟩ : ByteArray), (⟨#[49]⟩ : ByteArray)])) true))
noncomputable abbrev pre_sl7Op1 : SM_sl7Op1.den → Bool := fun d => q_sl7Op1 d.2.1.1 d.2.1.2.1 d.2.1.2.2.1
theorem runA_sl7Op1 (h0_0 : List Int) (h0_1 : Int) (h0_2 : Int) (hp : ((q_sl1Int h0_0 h0_1 h0_2 [(1 : Int), (1 : Int), (1 : Int), (2 : Int), (3 : Int)]) && ((q_sl3Key ((sl1Int h0_0 h0_1 h0_2 [(1 : Int), (1 : Int), (1 : Int), (2 : Int), (3 : Int)]).2.1) ((sl1Int h0_0 h0_1 h0_2 [(1 : Int), (1 : Int), (1 : Int), (2 : Int), (3 : Int)]).2.2.1) ((sl1Int h0_0 h0_1 h0_2 [(1 : Int), (1 : Int), (1 : Int), (2 : Int), (3 : Int)]).2.2.2.1)) && (cond (((sl1Int h0_0 h0_1 h0_2 [(1 : Int), (1 : Int), (1 : Int), (2 : Int), (3 : Int)]).1) != (2 : Int)) (q_sl1Str ((k1_sl7Op1 h0_0 h0_1 h0_2).2.1) ((k1_sl7Op1 h0_0 h0_1 h0_2).2.2.1) ((k1_sl7Op1 h0_0 h0_1 h0_2).2.2.2) ([(⟨#[49]⟩ : ByteArray), (⟨#[50]⟩ : ByteArray), (⟨#[120]⟩ : ByteArray), (⟨#[]⟩ : ByteArray), (⟨#[49]⟩ : ByteArray)])) true))) = true) : runM Try.prog tt S7 QF7 (fun _ _ => none) Try.f145 (shsMk SM_sl7Op1.sl ((((), ()), ((h0_0, h0_1, h0_2, ()), ())) : SM_sl7Op1.den).1) (ohsMk SM_sl7Op1.hp ((((), ()), ((h0_0, h0_1, h0_2, ()), ())) : SM_sl7Op1.den).2) = some (g_sl7Op1 (((), ()), ((h0_0, h0_1, h0_2, ()), ()))) := by
  refine Eq.trans (b := (cond (q_sl1Int h0_0 h0_1 h0_2 [(1 : Int), (1 : Int), (1 : Int), (2 : Int), (3 : Int)]) (cond (q_sl3Key ((sl1Int h0_0 h0_1 h0_2 [(1 : Int), (1 : Int), (1 : Int), (2 : Int), (3 : Int)]).2.1) ((sl1Int h0_0 h0_1 h0_2 [(1 : Int), (1 : Int), (1 : Int), (2 : Int), (3 : Int)]).2.2.1) ((sl1Int h0_0 h0_1 h0_2 [(1 : Int), (1 : Int), (1 : Int), (2 : Int), (3 : Int)]).2.2.2.1)) (cond (((sl1Int h0_0 h0_1 h0_2 [(1 : Int), (1 : Int), (1 : Int), (2 : Int), (3 : Int)]).1) != (2 : Int)) (cond (q_sl1Str ((k1_sl7Op1 h0_0 h0_1 h0_2).2.1) ((k1_sl7Op1 h0_0 h0_1 h0_2).2.2.1) ((k1_sl7Op1 h0_0 h0_1 h0_2).2.2.2) ([(⟨#[49]⟩ : ByteArray), (⟨#[50]⟩ : ByteArray), (⟨#[120]⟩ : ByteArray), (⟨#[]⟩ : ByteArray), (⟨#[49]⟩ : ByteArray)])) (some (e_sl7Op1 (((sl1Int h0_0 h0_1 h0_2 [(1 : Int), (1 : Int), (1 : Int), (2 : Int), (3 : Int)]).1), ((k1_sl7Op1 h0_0 h0_1 h0_2).1), ((k2_sl7Op1 h0_0 h0_1 h0_2).1), ((k2_sl7Op1 h0_0 h0_1 h0_2).2.1), ((k2_sl7Op1 h0_0 h0_1 h0_2).2.2.1), ((k2_sl7Op1 h0_0 h0_1 h0_2).2.2.2.1), ((sl1Int h0_0 h0_1 h0_2 [(1 : Int), (1 : Int), (1 : Int), (2 : Int), (3 : Int)]).1), ((k1_sl7Op1 h0_0 h0_1 h0_2).1), ((k2_sl7Op1 h0_0 h0_1 h0_2).1)))) none) (some (e_sl7Op1 (((sl1Int h0_0 h0_1 h0_2 [(1 : Int), (1 : Int), (1 : Int), (2 : Int), (3 : Int)]).1), ((k1_sl7Op1 h0_0 h0_1 h0_2).1), (⟨#[]⟩ : ByteArray), ((k1_sl7Op1 h0_0 h0_1 h0_2).2.1), ((k1_sl7Op1 h0_0 h0_1 h0_2).2.2.1), ((k1_sl7Op1 h0_0 h0_1 h0_2).2.2.2), ((sl1Int h0_0 h0_1 h0_2 [(1 : Int), (1 : Int), (1 : Int), (2 : Int), (3 : Int)]).1), ((k1_sl7Op1 h0_0 h0_1 h0_2).1), (⟨#[]⟩ : ByteArray))))) none) none)) (by kernel_rfl) ?_
  exact (cndT (andL hp) (fun _h => (fun hp => (cndT (andL hp) (fun _h => (fun hp => (cndQ (F := fun r => some (e_sl7Op1 r)) hp (fun hp => (cndT hp (fun _h => rfl))) (fun hp => rfl))) (andR hp)))) (andR hp)))
theorem run_sl7Op1 : ∀ d : SM_sl7Op1.den, pre_sl7Op1 d = true → runM Try.prog tt S7 QF7 (fun _ _ => none) Try.f145 (shsMk SM_sl7Op1.sl (d : SM_sl7Op1.den).1) (ohsMk SM_sl7Op1.hp (d : SM_sl7Op1.den).2) = some (g_sl7Op1 d) := fun d hp => runA_sl7Op1 d.2.1.1 d.2.1.2.1 d.2.1.2.2.1 hp
theorem c_sl7Op1 : MContract Try.prog 145 (win winIds (msum SM_sl7Op1 pre_sl7Op1 g_sl7Op1)) := (MContract.of_data G7 (fn := Try.f145) (by kernel_rfl) (L := fun _ _ => none) (by rw [show loopsIn 0 (bodyOf Try.f145) = [] by kernel_rfl]; simp) SM_sl7Op1 pre_sl7Op1 g_sl7Op1 run_sl7Op1).win winIds
noncomputable def S8 : Tab := Tab.add S7 145 (win winIds (msum SM_sl7Op1 pre_sl7Op1 g_sl7Op1))
noncomputable def QF8 : FuncId → Bool := QF7
theorem G8 : Good Try.prog tt S8 QF8 := G7.addM c_sl7Op1 (win_local _) ⟨Try.f145, by kernel_rfl, by kernel_rfl, by kernel_rfl⟩ (by kernel_rfl)

/-! 146 loop.example/g00244/spec.l7One -/
noncomputable abbrev P_sl7One : List PSh := [.t (.sl (.pair (.int .i64) (.pair .str .str))), .agg [(.int .i64), .str, .str]]
noncomputable abbrev S_sl7One_0 : SS := ⟨[.t false (.sl (.pair (.int .i64) (.pair .str .str))), .junk, .junk, .ptr 0 0 1 0, .junk, .all 1 3, .t true .bool, .t true (.int .i64), .junk, .junk, .junk, .junk, .junk, .junk, .junk, .junk, .junk, .junk, .junk, .junk, .junk, .junk, .junk, .junk, .junk, .junk, .junk, .junk, .junk, .junk, .junk, .junk, .junk, .junk, .junk, .junk, .junk, .junk, .junk, .junk, .junk, .junk, .junk, .junk, .junk, .junk, .junk, .junk, .junk, .junk, .junk, .junk, .junk], [.box [.t true (.int .i64), .t true .str, .t true .str], .rows 85 true (.pair (.int .i64) (.pair .str .str))]⟩
noncomputable abbrev E_sl7One_0_0 : SS := ⟨[.junk, .junk, .junk, .ptr 0 0 1 0, .junk, .all 1 3, .t true .bool, .junk, .junk, .junk, .junk, .junk, .junk, .junk, .junk, .junk, .junk, .junk, .junk, .junk, .junk, .junk, .junk, .junk, .junk, .junk, .junk, .junk, .junk, .junk, .junk, .junk, .junk, .junk, .junk, .junk, .junk, .junk, .junk, .junk, .junk, .junk, .junk, .junk, .junk, .junk, .junk, .junk, .junk, .junk, .junk, .junk, .junk], [.box [.t true (.int .i64), .t true .str, .t true .str], .rows 85 true (.pair (.int .i64) (.pair .str .str))]⟩
noncomputable def st_sl7One_0 (x0 : List (Int × ByteArray × ByteArray)) (x6 : Bool) (x7 : Int) (h0_0 : Int) (h0_1 : ByteArray) (h0_2 : ByteArray) (h1 : List (Int × ByteArray × ByteArray)) : RT S_sl7One_0.den := (.br (decide (x7 < ((x0.length : Nat) : Int))) (.br (!x6) (.br (decide (0 ≤ x7 ∧ x7 < ((x0.length : Nat) : Int))) (.br (!(Op.bytesLess (((x0.getD x7.toNat ((0 : Int), ((⟨#[]⟩ : ByteArray), (⟨#[]⟩ : ByteArray)))).2).1).toList h0_1.toList)) (.br (decide ((h1.length + [(h0_0, (h0_1, h0_2))].length) * 40 ≤ MAXB)) (.br (decide (0 ≤ x7 ∧ x7 < ((x0.length : Nat) : Int))) (.br (!((((x0.getD x7.toNat ((0 : Int), ((⟨#[]⟩ : ByteArray), (⟨#[]⟩ : ByteArray)))).2).1).toList == h0_1.toList)) (.br (decide (0 ≤ x7 ∧ x7 < ((x0.length : Nat) : Int))) (.br (decide (((h1 ++ [(h0_0, (h0_1, h0_2))]).length + ([((x0.getD x7.toNat ((0 : Int), ((⟨#[]⟩ : ByteArray), (⟨#[]⟩ : ByteArray)))).1, (((x0.getD x7.toNat ((0 : Int), ((⟨#[]⟩ : ByteArray), (⟨#[]⟩ : ByteArray)))).2).1, ((x0.getD x7.toNat ((0 : Int), ((⟨#[]⟩ : ByteArray), (⟨#[]⟩ : ByteArray)))).2).2))]).length) * 40 ≤ MAXB)) (.next ((x0, (), (), (), (), (), true, IntKind.wrap .i64 (x7 + (1 : Int)), (), (), (), (), (), (), (), (), (), (), (), (), (), (), (), (), (), (), (), (), (), (), (), (), (), (), (), (), (), (), (), (), (), (), (), (), (), (), (), (), (), (), (), (), (), ()), ((h0_0, h0_1, h0_2, ()), (h1 ++ [(h0_0, (h0_1, h0_2))]) ++ ([((x0.getD x7.toNat ((0 : Int), ((⟨#[]⟩ : ByteArray), (⟨#[]⟩ : ByteArray)))).1, (((x0.getD x7.toNat ((0 : Int), ((⟨#[]⟩ : ByteArray), (⟨#[]⟩ : ByteArray)))).2).1, ((x0.getD x7.toNat ((0 : Int), ((⟨#[]⟩ : ByteArray), (⟨#[]⟩ : ByteArray)))).2).2))]), ()))) .fail) .fail) (.next ((x0, (), (), (), (), (), true, IntKind.wrap .i64 (x7 + (1 : Int)), (), (), (), (), (), (), (), (), (), (), (), (), (), (), (), (), (), (), (), (), (), (), (), (), (), (), (), (), (), (), (), (), (), (), (), (), (), (), (), (), (), (), (), (), (), ()), ((h0_0, h0_1, h0_2, ()), h1 ++ [(h0_0, (h0_1, h0_2))], ())))) .fail) .fail) (.br (decide (0 ≤ x7 ∧ x7 < ((x0.length : Nat) : Int))) (.br (!((((x0.getD x7.toNat ((0 : Int), ((⟨#[]⟩ : ByteArray), (⟨#[]⟩ : ByteArray)))).2).1).toList == h0_1.toList)) (.br (decide (0 ≤ x7 ∧ x7 < ((x0.length : Nat) : Int))) (.br (decide ((h1.length + ([((x0.getD x7.toNat ((0 : Int), ((⟨#[]⟩ : ByteArray), (⟨#[]⟩ : ByteArray)))).1, (((x0.getD x7.toNat ((0 : Int), ((⟨#[]⟩ : ByteArray), (⟨#[]⟩ : ByteArray)))).2).1, ((x0.getD x7.toNat ((0 : Int), ((⟨#[]⟩ : ByteArray), (⟨#[]⟩ : ByteArray)))).2).2))]).length) * 40 ≤ MAXB)) (.next ((x0, (), (), (), (), (), x6, IntKind.wrap .i64 (x7 + (1 : Int)), (), (), (), (), (), (), (), (), (), (), (), (), (), (), (), (), (), (), (), (), (), (), (), (), (), (), (), (), (), (), (), (), (), (), (), (), (), (), (), (), (), (), (), (), (), ()), ((h0_0, h0_1, h0_2, ()), h1 ++ ([((x0.getD x7.toNat ((0 : Int), ((⟨#[]⟩ : ByteArray), (⟨#[]⟩ : ByteArray)))).1, (((x0.getD x7.toNat ((0 : Int), ((⟨#[]⟩ : ByteArray), (⟨#[]⟩ : ByteArray)))).2).1, ((x0.getD x7.toNat ((0 : Int), ((⟨#[]⟩ : ByteArray), (⟨#[]⟩ : ByteArray)))).2).2))]), ()))) .fail) .fail) (.next ((x0, (), (), (), (), (), x6, IntKind.wrap .i64 (x7 + (1 : Int)), (), (), (), (), (), (), (), (), (), (), (), (), (), (), (), (), (), (), (), (), (), (), (), (), (), (), (), (), (), (), (), (), (), (), (), (), (), (), (), (), (), (), (), (), (), ()), ((h0_0, h0_1, h0_2, ()), h1, ())))) .fail)) .fail) (.br (decide (0 ≤ x7 ∧ x7 < ((x0.length : Nat) : Int))) (.br (!((((x0.getD x7.toNat ((0 : Int), ((⟨#[]⟩ : ByteArray), (⟨#[]⟩ : ByteArray)))).2).1).toList == h0_1.toList)) (.br (decide (0 ≤ x7 ∧ x7 < ((x0.length : Nat) : Int))) (.br (decide ((h1.length + ([((x0.getD x7.toNat ((0 : Int), ((⟨#[]⟩ : ByteArray), (⟨#[]⟩ : ByteArray)))).1, (((x0.getD x7.toNat ((0 : Int), ((⟨#[]⟩ : ByteArray), (⟨#[]⟩ : ByteArray)))).2).1, ((x0.getD x7.toNat ((0 : Int), ((⟨#[]⟩ : ByteArray), (⟨#[]⟩ : ByteArray)))).2).2))]).length) * 40 ≤ MAXB)) (.next ((x0, (), (), (), (), (), x6, IntKind.wrap .i64 (x7 + (1 : Int)), (), (), (), (), (), (), (), (), (), (), (), (), (), (), (), (), (), (), (), (), (), (), (), (), (), (), (), (), (), (), (), (), (), (), (), (), (), (), (), (), (), (), (), (), (), ()), ((h0_0, h0_1, h0_2, ()), h1 ++ ([((x0.getD x7.toNat ((0 : Int), ((⟨#[]⟩ : ByteArray), (⟨#[]⟩ : ByteArray)))).1, (((x0.getD x7.toNat ((0 : Int), ((⟨#[]⟩ : ByteArray), (⟨#[]⟩ : ByteArray)))).2).1, ((x0.getD x7.toNat ((0 : Int), ((⟨#[]⟩ : ByteArray), (⟨#[]⟩ : ByteArray)))).2).2))]), ()))) .fail) .fail) (.next ((x0, (), (), (), (), (), x6, IntKind.wrap .i64 (x7 + (1 : Int)), (), (), (), (), (), (), (), (), (), (), (), (), (), (), (), (), (), (), (), (), (), (), (), (), (), (), (), (), (), (), (), (), (), (), (), (), (), (), (), (), (), (), (), (), (), ()), ((h0_0, h0_1, h0_2, ()), h1, ())))) .fail)) (.done (.exit 0) E_sl7One_0_0 (((), (), (), (), (), (), x6, (), (), (), (), (), (), (), (), (), (), (), (), (), (), (), (), (), (), (), (), (), (), (), (), (), (), (), (), (), (), (), (), (), (), (), (), (), (), (), (), (), (), (), (), (), (), ()), ((h0_0, h0_1, h0_2, ()), h1, ()))))
noncomputable abbrev V_sl7One_0 := (List (Int × ByteArray × ByteArray)) × (Bool) × (Int) × (Int) × (ByteArray) × (ByteArray) × (List (Int × ByteArray × ByteArray))
noncomputable abbrev A_sl7One_0 := Nat × (Bool) × (Int) × (ByteArray) × (ByteArray) × (List (Int × ByteArray × ByteArray))
noncomputable def fl_sl7One_0 : A_sl7One_0 := (99, (false : Bool), ((0 : Int) : Int), ((⟨#[]⟩ : ByteArray) : ByteArray), ((⟨#[]⟩ : ByteArray) : ByteArray), ([] : List (Int × ByteArray × ByteArray)))
noncomputable def ss_sl7One_0 (x0 : List (Int × ByteArray × ByteArray)) (x6 : Bool) (x7 : Int) (h0_0 : Int) (h0_1 : ByteArray) (h0_2 : ByteArray) (h1 : List (Int × ByteArray × ByteArray)) : V_sl7One_0 ⊕ A_sl7One_0 := (cond (decide (x7 < ((x0.length : Nat) : Int))) (cond (!x6) (cond (decide (0 ≤ x7 ∧ x7 < ((x0.length : Nat) : Int))) (cond (!(Op.bytesLess (((x0.getD x7.toNat ((0 : Int), ((⟨#[]⟩ : ByteArray), (⟨#[]⟩ : ByteArray)))).2).1).toList h0_1.toList)) (cond (decide ((h1.length + [(h0_0, (h0_1, h0_2))].length) * 40 ≤ MAXB)) (cond (decide (0 ≤ x7 ∧ x7 < ((x0.length : Nat) : Int))) (cond (!((((x0.getD x7.toNat ((0 : Int), ((⟨#[]⟩ : ByteArray), (⟨#[]⟩ : ByteArray)))).2).1).toList == h0_1.toList)) (cond (decide (0 ≤ x7 ∧ x7 < ((x0.length : Nat) : Int))) (cond (decide (((h1 ++ [(h0_0, (h0_1, h0_2))]).length + ([((x0.getD x7.toNat ((0 : Int), ((⟨#[]⟩ : ByteArray), (⟨#[]⟩ : ByteArray)))).1, (((x0.getD x7.toNat ((0 : Int), ((⟨#[]⟩ : ByteArray), (⟨#[]⟩ : ByteArray)))).2).1, ((x0.getD x7.toNat ((0 : Int), ((⟨#[]⟩ : ByteArray), (⟨#[]⟩ : ByteArray)))).2).2))]).length) * 40 ≤ MAXB)) (.inl (x0, true, IntKind.wrap .i64 (x7 + (1 : Int)), h0_0, h0_1, h0_2, (h1 ++ [(h0_0, (h0_1, h0_2))]) ++ ([((x0.getD x7.toNat ((0 : Int), ((⟨#[]⟩ : ByteArray), (⟨#[]⟩ : ByteArray)))).1, (((x0.getD x7.toNat ((0 : Int), ((⟨#[]⟩ : ByteArray), (⟨#[]⟩ : ByteArray)))).2).1, ((x0.getD x7.toNat ((0 : Int), ((⟨#[]⟩ : ByteArray), (⟨#[]⟩ : ByteArray)))).2).2))]))) (.inr fl_sl7One_0)) (.inr fl_sl7One_0)) (.inl (x0, true, IntKind.wrap .i64 (x7 + (1 : Int)), h0_0, h0_1, h0_2, h1 ++ [(h0_0, (h0_1, h0_2))]))) (.inr fl_sl7One_0)) (.inr fl_sl7One_0)) (cond (decide (0 ≤ x7 ∧ x7 < ((x0.length : Nat) : Int))) (cond (!((((x0.getD x7.toNat ((0 : Int), ((⟨#[]⟩ : ByteArray), (⟨#[]⟩ : ByteArray)))).2).1).toList == h0_1.toList)) (cond (decide (0 ≤ x7 ∧ x7 < ((x0.length : Nat) : Int))) (cond (decide ((h1.length + ([((x0.getD x7.toNat ((0 : Int), ((⟨#[]⟩ : ByteArray), (⟨#[]⟩ : ByteArray)))).1, (((x0.getD x7.toNat ((0 : Int), ((⟨#[]⟩ : ByteArray), (⟨#[]⟩ : ByteArray)))).2).1, ((x0.getD x7.toNat ((0 : Int), ((⟨#[]⟩ : ByteArray), (⟨#[]⟩ : ByteArray)))).2).2))]).length) * 40 ≤ MAXB)) (.inl (x0, x6, IntKind.wrap .i64 (x7 + (1 : Int)), h0_0, h0_1, h0_2, h1 ++ ([((x0.getD x7.toNat ((0 : Int), ((⟨#[]⟩ : ByteArray), (⟨#[]⟩ : ByteArray)))).1, (((x0.getD x7.toNat ((0 : Int), ((⟨#[]⟩ : ByteArray), (⟨#[]⟩ : ByteArray)))).2).1, ((x0.getD x7.toNat ((0 : Int), ((⟨#[]⟩ : ByteArray), (⟨#[]⟩ : ByteArray)))).2).2))]))) (.inr fl_sl7One_0)) (.inr fl_sl7One_0)) (.inl (x0, x6, IntKind.wrap .i64 (x7 + (1 : Int)), h0_0, h0_1, h0_2, h1))) (.inr fl_sl7One_0))) (.inr fl_sl7One_0)) (cond (decide (0 ≤ x7 ∧ x7 < ((x0.length : Nat) : Int))) (cond (!((((x0.getD x7.toNat ((0 : Int), ((⟨#[]⟩ : ByteArray), (⟨#[]⟩ : ByteArray)))).2).1).toList == h0_1.toList)) (cond (decide (0 ≤ x7 ∧ x7 < ((x0.length : Nat) : Int))) (cond (decide ((h1.length + ([((x0.getD x7.toNat ((0 : Int), ((⟨#[]⟩ : ByteArray), (⟨#[]⟩ : ByteArray)))).1, (((x0.getD x7.toNat ((0 : Int), ((⟨#[]⟩ : ByteArray), (⟨#[]⟩ : ByteArray)))).2).1, ((x0.getD x7.toNat ((0 : Int), ((⟨#[]⟩ : ByteArray), (⟨#[]⟩ : ByteArray)))).2).2))]).length) * 40 ≤ MAXB)) (.inl (x0, x6, IntKind.wrap .i64 (x7 + (1 : Int)), h0_0, h0_1, h0_2, h1 ++ ([((x0.getD x7.toNat ((0 : Int), ((⟨#[]⟩ : ByteArray), (⟨#[]⟩ : ByteArray)))).1, (((x0.getD x7.toNat ((0 : Int), ((⟨#[]⟩ : ByteArray), (⟨#[]⟩ : ByteArray)))).2).1, ((x0.getD x7.toNat ((0 : Int), ((⟨#[]⟩ : ByteArray), (⟨#[]⟩ : ByteArray)))).2).2))]))) (.inr fl_sl7One_0)) (.inr fl_sl7One_0)) (.inl (x0, x6, IntKind.wrap .i64 (x7 + (1 : Int)), h0_0, h0_1, h0_2, h1))) (.inr fl_sl7One_0))) (.inr (0, x6, h0_0, h0_1, h0_2, h1)))
noncomputable def it_sl7One_0 (x0 : List (Int × ByteArray × ByteArray)) (x6 : Bool) (x7 : Int) (h0_0 : Int) (h0_1 : ByteArray) (h0_2 : ByteArray) (h1 : List (Int × ByteArray × ByteArray)) : A_sl7One_0 := itX (fun v : V_sl7One_0 => ss_sl7One_0 v.1 v.2.1 v.2.2.1 v.2.2.2.1 v.2.2.2.2.1 v.2.2.2.2.2.1 v.2.2.2.2.2.2) fl_sl7One_0 (x0, x6, x7, h0_0, h0_1, h0_2, h1)
noncomputable def ct_sl7One_0 (a : A_sl7One_0) : CT := (.br (a.1 == 0) (.done (.exit 0) E_sl7One_0_0 (((), (), (), (), (), (), a.2.1, (), (), (), (), (), (), (), (), (), (), (), (), (), (), (), (), (), (), (), (), (), (), (), (), (), (), (), (), (), (), (), (), (), (), (), (), (), (), (), (), (), (), (), (), (), (), ()), ((a.2.2.1, a.2.2.2.1, a.2.2.2.2.1, ()), a.2.2.2.2.2, ()))) .fail)
noncomputable def T_sl7One_0 (x0 : List (Int × ByteArray × ByteArray)) (x6 : Bool) (x7 : Int) (h0_0 : Int) (h0_1 : ByteArray) (h0_2 : ByteArray) (h1 : List (Int × ByteArray × ByteArray)) : CT := ct_sl7One_0 (it_sl7One_0 x0 x6 x7 h0_0 h0_1 h0_2 h1)
noncomputable abbrev sp_sl7One_0 : S_sl7One_0.den → RT S_sl7One_0.den := fun d => st_sl7One_0 d.1.1 d.1.2.2.2.2.2.2.1 d.1.2.2.2.2.2.2.2.1 d.2.1.1 d.2.1.2.1 d.2.1.2.2.1 d.2.2.1
noncomputable abbrev pk_sl7One_0 (x0 : List (Int × ByteArray × ByteArray)) (x6 : Bool) (x7 : Int) (h0_0 : Int) (h0_1 : ByteArray) (h0_2 : ByteArray) (h1 : List (Int × ByteArray × ByteArray)) : S_sl7One_0.den := ((x0, (), (), (), (), (), x6, x7, (), (), (), (), (), (), (), (), (), (), (), (), (), (), (), (), (), (), (), (), (), (), (), (), (), (), (), (), (), (), (), (), (), (), (), (), (), (), (), (), (), (), (), (), (), ()), ((h0_0, h0_1, h0_2, ()), h1, ()))
noncomputable def body_sl7One_0 : Code := ((loopsIn 0 (bodyOf Try.f146)).getD 0 (0, .skip)).2
theorem R_sl7One_0 (x0 : List (Int × ByteArray × ByteArray)) (x6 : Bool) (x7 : Int) (h0_0 : Int) (h0_1 : ByteArray) (h0_2 : ByteArray) (h1 : List (Int × ByteArray × ByteArray)) : (T_sl7One_0 x0 x6 x7 h0_0 h0_1 h0_2 h1).val (D := S_sl7One_0.den) = .fail ∨ Runs sp_sl7One_0 (pk_sl7One_0 x0 x6 x7 h0_0 h0_1 h0_2 h1) (T_sl7One_0 x0 x6 x7 h0_0 h0_1 h0_2 h1).val := Runs.ofIt (step := sp_sl7One_0) (fun v : V_sl7One_0 => pk_sl7One_0 v.1 v.2.1 v.2.2.1 v.2.2.2.1 v.2.2.2.2.1 v.2.2.2.2.2.1 v.2.2.2.2.2.2) (ct := ct_sl7One_0) rfl (fun v => ((relB (relB (relB (relB (relB (relB (relB (relB (relB rfl rfl) rfl) rfl) rfl) rfl) (relB (relB (relB (relB rfl rfl) rfl) rfl) rfl)) rfl) (relB (relB (relB (relB rfl rfl) rfl) rfl) rfl)) rfl) : (st_sl7One_0 v.1 v.2.1 v.2.2.1 v.2.2.2.1 v.2.2.2.2.1 v.2.2.2.2.2.1 v.2.2.2.2.2.2).val = relS (fun v : V_sl7One_0 => pk_sl7One_0 v.1 v.2.1 v.2.2.1 v.2.2.2.1 v.2.2.2.2.1 v.2.2.2.2.2.1 v.2.2.2.2.2.2) ct_sl7One_0 (ss_sl7One_0 v.1 v.2.1 v.2.2.1 v.2.2.2.1 v.2.2.2.2.1 v.2.2.2.2.2.1 v.2.2.2.2.2.2))) (fun a => ((cendB (cendD (by simp)) cendF) : CEnd _ (ct_sl7One_0 a))) (x0, x6, x7, h0_0, h0_1, h0_2, h1)
theorem rd_sl7One_0 : ∀ d, execC Try.prog tt S8 QF8 (fun _ _ => none) 0 body_sl7One_0 (S_sl7One_0.st d 0 []) (fun e s' => some (e, S_sl7One_0.cutE (kepts [] [(0, [3, 5, 6])]) e s')) = (sp_sl7One_0 d).opt 0 [] := by
  intro d
  kernel_rfl
noncomputable abbrev say_sl7One_0 : St → Option Tree := S_sl7One_0.say 0 [] [] (fun d => T_sl7One_0 d.1.1 d.1.2.2.2.2.2.2.1 d.1.2.2.2.2.2.2.2.1 d.2.1.1 d.2.1.2.1 d.2.1.2.2.1 d.2.2.1)
theorem lw_sl7One_0 : LoopWp Try.prog say_sl7One_0 body_sl7One_0 := SS.wp G8 (fun _ _ => none) (by rw [show loopsIn 0 body_sl7One_0 = [] by kernel_rfl]; simp) S_sl7One_0 0 [] (kepts [] [(0, [3, 5, 6])]) [] sp_sl7One_0 rd_sl7One_0 _ (fun d => R_sl7One_0 d.1.1 d.1.2.2.2.2.2.2.1 d.1.2.2.2.2.2.2.2.1 d.2.1.1 d.2.1.2.1 d.2.1.2.2.1 d.2.2.1)
noncomputable def sl7One (a0 : List (Int × ByteArray × ByteArray)) (a1 : Int) (a2 : ByteArray) (a3 : ByteArray) : List (Int × ByteArray × ByteArray) := (cond (!((it_sl7One_0 a0 false (0 : Int) a1 a2 a3 ([] : List (Int × ByteArray × ByteArray))).2.1)) (((it_sl7One_0 a0 false (0 : Int) a1 a2 a3 ([] : List (Int × ByteArray × ByteArray))).2.2.2.2.2) ++ ([(((it_sl7One_0 a0 false (0 : Int) a1 a2 a3 ([] : List (Int × ByteArray × ByteArray))).2.2.1), (((it_sl7One_0 a0 false (0 : Int) a1 a2 a3 ([] : List (Int × ByteArray × ByteArray))).2.2.2.1), ((it_sl7One_0 a0 false (0 : Int) a1 a2 a3 ([] : List (Int × ByteArray × ByteArray))).2.2.2.2.1)))])) ((it_sl7One_0 a0 false (0 : Int) a1 a2 a3 ([] : List (Int × ByteArray × ByteArray))).2.2.2.2.2))
noncomputable abbrev e_sl7One (r : List (Int × ByteArray × ByteArray)) : AV × List AObj := ((.all 0 3), [(.rows 85 true (.pair (.int .i64) (.pair .str .str)) r)])
noncomputable abbrev g_sl7One : pshsDen P_sl7One → AV × List AObj := fun d => e_sl7One (sl7One d.1 d.2.1.1 d.2.1.2.1 d.2.1.2.2.1)
noncomputable def q_sl7One (a0 : List (Int × ByteArray × ByteArray)) (a1 : Int) (a2 : ByteArray) (a3 : ByteArray) : Bool := ((it_sl7One_0 a0 false (0 : Int) a1 a2 a3 ([] : List (Int × ByteArray × ByteArray))).1 == 0) && (cond (!((it_sl7One_0 a0 false (0 : Int) a1 a2 a3 ([] : List (Int × ByteArray × ByteArray))).2.1)) (decide ((((it_sl7One_0 a0 false (0 : Int) a1 a2 a3 ([] : List (Int × ByteArray × ByteArray))).2.2.2.2.2).length + ([(((it_sl7One_0 a0 false (0 : Int) a1 a2 a3 ([] : List (Int × ByteArray × ByteArray))).2.2.1), (((it_sl7One_0 a0 false (0 : Int) a1 a2 a3 ([] : List (Int × ByteArray × ByteArray))).2.2.2.1), ((it_sl7One_0 a0 false (0 : Int) a1 a2 a3 ([] : List (Int × ByteArray × ByteArray))).2.2.2.2.1)))]).length) * 40 ≤ MAXB)) true)
noncomputable abbrev pre_sl7One : pshsDen P_sl7One → Bool := fun d => q_sl7One d.1 d.2.1.1 d.2.1.2.1 d.2.1.2.2.1
theorem runA_sl7One (a0 : List (Int × ByteArray × ByteArray)) (a1 : Int) (a2 : ByteArray) (a3 : ByteArray) (hp : (((it_sl7One_0 a0 false (0 : Int) a1 a2 a3 ([] : List (Int × ByteArray × ByteArray))).1 == 0) && (cond (!((it_sl7One_0 a0 false (0 : Int) a1 a2 a3 ([] : List (Int × ByteArray × ByteArray))).2.1)) (decide ((((it_sl7One_0 a0 false (0 : Int) a1 a2 a3 ([] : List (Int × ByteArray × ByteArray))).2.2.2.2.2).length + ([(((it_sl7One_0 a0 false (0 : Int) a1 a2 a3 ([] : List (Int × ByteArray × ByteArray))).2.2.1), (((it_sl7One_0 a0 false (0 : Int) a1 a2 a3 ([] : List (Int × ByteArray × ByteArray))).2.2.2.1), ((it_sl7One_0 a0 false (0 : Int) a1 a2 a3 ([] : List (Int × ByteArray × ByteArray))).2.2.2.2.1)))]).length) * 40 ≤ MAXB)) true)) = true) : runP false Try.prog tt S8 QF8 (fun b => match b with | 0 => say_sl7One_0 | _ => fun _ => none) Try.f146 (argsMk P_sl7One (a0, ((a1, (a2, (a3, ()))), ()))) = some (g_sl7One (a0, ((a1, (a2, (a3, ()))), ()))) := by
  refine Eq.trans (b := (cond ((it_sl7One_0 a0 false (0 : Int) a1 a2 a3 ([] : List (Int × ByteArray × ByteArray))).1 == 0) (cond (!((it_sl7One_0 a0 false (0 : Int) a1 a2 a3 ([] : List (Int × ByteArray × ByteArray))).2.1)) (cond (decide ((((it_sl7One_0 a0 false (0 : Int) a1 a2 a3 ([] : List (Int × ByteArray × ByteArray))).2.2.2.2.2).length + ([(((it_sl7One_0 a0 false (0 : Int) a1 a2 a3 ([] : List (Int × ByteArray × ByteArray))).2.2.1), (((it_sl7One_0 a0 false (0 : Int) a1 a2 a3 ([] : List (Int × ByteArray × ByteArray))).2.2.2.1), ((it_sl7One_0 a0 false (0 : Int) a1 a2 a3 ([] : List (Int × ByteArray × ByteArray))).2.2.2.2.1)))]).length) * 40 ≤ MAXB)) (some (e_sl7One (((it_sl7One_0 a0 false (0 : Int) a1 a2 a3 ([] : List (Int × ByteArray × ByteArray))).2.2.2.2.2) ++ ([(((it_sl7One_0 a0 false (0 : Int) a1 a2 a3 ([] : List (Int × ByteArray × ByteArray))).2.2.1), (((it_sl7One_0 a0 false (0 : Int) a1 a2 a3 ([] : List (Int × ByteArray × ByteArray))).2.2.2.1), ((it_sl7One_0 a0 false (0 : Int) a1 a2 a3 ([] : List (Int × ByteArray × ByteArray))).2.2.2.2.1)))])))) none) (some (e_sl7One ((it_sl7One_0 a0 false (0 : Int) a1 a2 a3 ([] : List (Int × ByteArray × ByteArray))).2.2.2.2.2)))) none)) (by kernel_rfl) ?_
  exact (cndT (andL hp) (fun _h => (fun hp => (cndQ (F := fun r => some (e_sl7One r)) hp (fun hp => (cndT hp (fun _h => rfl))) (fun hp => rfl))) (andR hp)))
theorem run_sl7One : ∀ d, pre_sl7One d = true → runP false Try.prog tt S8 QF8 (fun b => match b with | 0 => say_sl7One_0 | _ => fun _ => none) Try.f146 (argsMk P_sl7One d) = some (g_sl7One d) := fun d hp => runA_sl7One d.1 d.2.1.1 d.2.1.2.1 d.2.1.2.2.1 hp
theorem c_sl7One : PContract Try.prog 146 (sumOf P_sl7One pre_sl7One g_sl7One) := PContract.of_data false G8 (fn := Try.f146) (by kernel_rfl) (L := fun b => match b with | 0 => say_sl7One_0 | _ => fun _ => none) (by rw [show loopsIn 0 (bodyOf Try.f146) = [(0, body_sl7One_0)] by kernel_rfl]; intro p hp; simp only [List.mem_singleton] at hp; subst hp; exact lw_sl7One_0) P_sl7One pre_sl7One g_sl7One run_sl7One
noncomputable def S9 : Tab := Tab.add S8 146 (lift (sumOf P_sl7One pre_sl7One g_sl7One))
noncomputable def QF9 : FuncId → Bool := QF8
theorem G9 : Good Try.prog tt S9 QF9 := G8.add c_sl7One ⟨Try.f146, by kernel_rfl, by kernel_rfl, by kernel_rfl⟩ (by kernel_rfl)

/-! 115 loop.example/g00244/spec.l7Draw -/
noncomputable abbrev SM_sl7Draw : SS := ⟨[.ptr 0 0 1 0], [.box [.t false (.sl (.int .u8)), .t true (.int .i64), .t true (.int .i64)]]⟩
noncomputable abbrev S_sl7Draw_0 : SS := ⟨[.ptr 0 0 1 0, .junk, .junk, .all 1 3, .t true (.int .i64), .junk, .junk, .junk, .junk, .junk, .junk, .junk, .junk, .junk, .junk, .junk, .junk, .junk], [.box [.t false (.sl (.int .u8)), .t true (.int .i64), .t true (.int .i64)], .rows 85 true (.pair (.int .i64) (.pair .str .str))]⟩
noncomputable abbrev E_sl7Draw_0_0 : SS := ⟨[.junk, .junk, .junk, .all 1 3, .junk, .junk, .junk, .junk, .junk, .junk, .junk, .junk, .junk, .junk, .junk, .junk, .junk, .junk], [.box [.t false (.sl (.int .u8)), .t true (.int .i64), .t true (.int .i64)], .rows 85 true (.pair (.int .i64) (.pair .str .str))]⟩
noncomputable def k1_sl7Draw (h0_0 : List Int) (h0_1 : Int) (h0_2 : Int) (h1 : List (Int × ByteArray × ByteArray)) := sl7One h1 ((sl7Op1 h0_0 h0_1 h0_2).1) ((sl7Op1 h0_0 h0_1 h0_2).2.1) ((sl7Op1 h0_0 h0_1 h0_2).2.2.1)
noncomputable def st_sl7Draw_0 (x4 : Int) (h0_0 : List Int) (h0_1 : Int) (h0_2 : Int) (h1 : List (Int × ByteArray × ByteArray)) : RT S_sl7Draw_0.den := (.br (decide (x4 > (0 : Int))) (.br (q_sl7Op1 h0_0 h0_1 h0_2) (.br (q_sl7One h1 ((sl7Op1 h0_0 h0_1 h0_2).1) ((sl7Op1 h0_0 h0_1 h0_2).2.1) ((sl7Op1 h0_0 h0_1 h0_2).2.2.1)) (.next (((), (), (), (), IntKind.wrap .i64 (x4 - (1 : Int)), (), (), (), (), (), (), (), (), (), (), (), (), (), ()), ((((sl7Op1 h0_0 h0_1 h0_2).2.2.2.1), ((sl7Op1 h0_0 h0_1 h0_2).2.2.2.2.1), ((sl7Op1 h0_0 h0_1 h0_2).2.2.2.2.2.1), ()), (k1_sl7Draw h0_0 h0_1 h0_2 h1), ()))) .fail) .fail) (.done (.exit 0) E_sl7Draw_0_0 (((), (), (), (), (), (), (), (), (), (), (), (), (), (), (), (), (), (), ()), ((h0_0, h0_1, h0_2, ()), h1, ()))))
noncomputable abbrev V_sl7Draw_0 := (Int) × (List Int) × (Int) × (Int) × (List (Int × ByteArray × ByteArray))
noncomputable abbrev A_sl7Draw_0 := Nat × (List Int) × (Int) × (Int) × (List (Int × ByteArray × ByteArray))
noncomputable def fl_sl7Draw_0 : A_sl7Draw_0 := (99, ([] : List Int), ((0 : Int) : Int), ((0 : Int) : Int), ([] : List (Int × ByteArray × ByteArray)))
noncomputable def ss_sl7Draw_0 (x4 : Int) (h0_0 : List Int) (h0_1 : Int) (h0_2 : Int) (h1 : List (Int × ByteArray × ByteArray)) : V_sl7Draw_0 ⊕ A_sl7Draw_0 := (cond (decide (x4 > (0 : Int))) (cond (q_sl7Op1 h0_0 h0_1 h0_2) (cond (q_sl7One h1 ((sl7Op1 h0_0 h0_1 h0_2).1) ((sl7Op1 h0_0 h0_1 h0_2).2.1) ((sl7Op1 h0_0 h0_1 h0_2).2.2.1)) (.inl (IntKind.wrap .i64 (x4 - (1 : Int)), ((sl7Op1 h0_0 h0_1 h0_2).2.2.2.1), ((sl7Op1 h0_0 h0_1 h0_2).2.2.2.2.1), ((sl7Op1 h0_0 h0_1 h0_2).2.2.2.2.2.1), (k1_sl7Draw h0_0 h0_1 h0_2 h1))) (.inr fl_sl7Draw_0)) (.inr fl_sl7Draw_0)) (.inr (0, h0_0, h0_1, h0_2, h1)))
noncomputable def it_sl7Draw_0 (x4 : Int) (h0_0 : List Int) (h0_1 : Int) (h0_2 : Int) (h1 : List (Int × ByteArray × ByteArray)) : A_sl7Draw_0 := itX (fun v : V_sl7Draw_0 => ss_sl7Draw_0 v.1 v.2.1 v.2.2.1 v.2.2.2.1 v.2.2.2.2) fl_sl7Draw_0 (x4, h0_0, h0_1, h0_2, h1)
noncomputable def ct_sl7Draw_0 (a : A_sl7Draw_0) : CT := (.br (a.1 == 0) (.done (.exit 0) E_sl7Draw_0_0 (((), (), (), (), (), (), (), (), (), (), (), (), (), (), (), (), (), (), ()), ((a.2.1, a.2.2.1, a.2.2.2.1, ()), a.2.2.2.2, ()))) .fail)
noncomputable def T_sl7Draw_0 (x4 : Int) (h0_0 : List Int) (h0_1 : Int) (h0_2 : Int) (h1 : List (Int × ByteArray × ByteArray)) : CT := ct_sl7Draw_0 (it_sl7Draw_0 x4 h0_0 h0_1 h0_2 h1)
noncomputable abbrev sp_sl7Draw_0 : S_sl7Draw_0.den → RT S_sl7Draw_0.den := fun d => st_sl7Draw_0 d.1.2.2.2.2.1 d.2.1.1 d.2.1.2.1 d.2.1.2.2.1 d.2.2.1
noncomputable abbrev pk_sl7Draw_0 (x4 : Int) (h0_0 : List Int) (h0_1 : Int) (h0_2 : Int) (h1 : List (Int × ByteArray × ByteArray)) : S_sl7Draw_0.den := (((), (), (), (), x4, (), (), (), (), (), (), (), (), (), (), (), (), (), ()), ((h0_0, h0_1, h0_2, ()), h1, ()))
noncomputable def body_sl7Draw_0 : Code := ((loopsIn 0 (bodyOf Try.f115)).getD 0 (0, .skip)).2
theorem R_sl7Draw_0 (x4 : Int) (h0_0 : List Int) (h0_1 : Int) (h0_2 : Int) (h1 : List (Int × ByteArray × ByteArray)) : (T_sl7Draw_0 x4 h0_0 h0_1 h0_2 h1).val (D := S_sl7Draw_0.den) = .fail ∨ Runs sp_sl7Draw_0 (pk_sl7Draw_0 x4 h0_0 h0_1 h0_2 h1) (T_sl7Draw_0 x4 h0_0 h0_1 h0_2 h1).val := Runs.ofIt (step := sp_sl7Draw_0) (fun v : V_sl7Draw_0 => pk_sl7Draw_0 v.1 v.2.1 v.2.2.1 v.2.2.2.1 v.2.2.2.2) (ct := ct_sl7Draw_0) rfl (fun v => ((relB (relB (relB rfl rfl) rfl) rfl) : (st_sl7Draw_0 v.1 v.2.1 v.2.2.1 v.2.2.2.1 v.2.2.2.2).val = relS (fun v : V_sl7Draw_0 => pk_sl7Draw_0 v.1 v.2.1 v.2.2.1 v.2.2.2.1 v.2.2.2.2) ct_sl7Draw_0 (ss_sl7Draw_0 v.1 v.2.1 v.2.2.1 v.2.2.2.1 v.2.2.2.2))) (fun a => ((cendB (cendD (by simp)) cendF) : CEnd _ (ct_sl7Draw_0 a))) (x4, h0_0, h0_1, h0_2, h1)
theorem rd_sl7Draw_0 : ∀ d, execC Try.prog tt S9 QF9 (fun _ _ => none) 0 body_sl7Draw_0 (S_sl7Draw_0.st d 1 []) (fun e s' => some (e, S_sl7Draw_0.cutE (kepts [] [(0, [3])]) e s')) = (sp_sl7Draw_0 d).opt 1 [] := by
  intro d
  kernel_rfl
noncomputable abbrev say_sl7Draw_0 : St → Option Tree := S_sl7Draw_0.say 1 [] [] (fun d => T_sl7Draw_0 d.1.2.2.2.2.1 d.2.1.1 d.2.1.2.1 d.2.1.2.2.1 d.2.2.1)
theorem lw_sl7Draw_0 : LoopWp Try.prog say_sl7Draw_0 body_sl7Draw_0 := SS.wp G9 (fun _ _ => none) (by rw [show loopsIn 0 body_sl7Draw_0 = [] by kernel_rfl]; simp) S_sl7Draw_0 1 [] (kepts [] [(0, [3])]) [] sp_sl7Draw_0 rd_sl7Draw_0 _ (fun d => R_sl7Draw_0 d.1.2.2.2.2.1 d.2.1.1 d.2.1.2.1 d.2.1.2.2.1 d.2.2.1)
noncomputable def k2_sl7Draw (h0_0 : List Int) (h0_1 : Int) (h0_2 : Int) := it_sl7Draw_0 (IntKind.wrap .i64 ((1 : Int) + ((sl1Below (4 : Int) h0_0 h0_1 h0_2).1))) ((sl1Below (4 : Int) h0_0 h0_1 h0_2).2.1) ((sl1Below (4 : Int) h0_0 h0_1 h0_2).2.2.1) ((sl1Below (4 : Int) h0_0 h0_1 h0_2).2.2.2) ([] : List (Int × ByteArray × ByteArray))
noncomputable def sl7Draw (h0_0 : List Int) (h0_1 : Int) (h0_2 : Int) : (List Int) × Int × Int × List (Int × ByteArray × ByteArray) := (((k2_sl7Draw h0_0 h0_1 h0_2).2.1), ((k2_sl7Draw h0_0 h0_1 h0_2).2.2.1), ((k2_sl7Draw h0_0 h0_1 h0_2).2.2.2.1), ((k2_sl7Draw h0_0 h0_1 h0_2).2.2.2.2))
noncomputable abbrev e_sl7Draw (r : (List Int) × Int × Int × List (Int × ByteArray × ByteArray)) : AV × List AObj × List Nat := ((.all 1 3), [(.box [(.t false (.sl (.int .u8)) r.1), (.t true (.int .i64) r.2.1), (.t true (.int .i64) r.2.2.1)]), (.rows 85 true (.pair (.int .i64) (.pair .str .str)) r.2.2.2)], [])
noncomputable abbrev g_sl7Draw : SM_sl7Draw.den → AV × List AObj × List Nat := fun d => e_sl7Draw (sl7Draw d.2.1.1 d.2.1.2.1 d.2.1.2.2.1)
noncomputable def q_sl7Draw (h0_0 : List Int) (h0_1 : Int) (h0_2 : Int) : Bool := (q_sl1Below (4 : Int) h0_0 h0_1 h0_2) && ((k2_sl7Draw h0_0 h0_1 h0_2).1 == 0)
noncomputable abbrev pre_sl7Draw : SM_sl7Draw.den → Bool := fun d => q_sl7Draw d.2.1.1 d.2.1.2.1 d.2.1.2.2.1
theorem runA_sl7Draw (h0_0 : List Int) (h0_1 : Int) (h0_2 : Int) (hp : ((q_sl1Below (4 : Int) h0_0 h0_1 h0_2) && ((k2_sl7Draw h0_0 h0_1 h0_2).1 == 0)) = true) : runM Try.prog tt S9 QF9 (fun b => match b with | 0 => say_sl7Draw_0 | _ => fun _ => none) Try.f115 (shsMk SM_sl7Draw.sl ((((), ()), ((h0_0, h0_1, h0_2, ()), ())) : SM_sl7Draw.den).1) (ohsMk SM_sl7Draw.hp ((((), ()), ((h0_0, h0_1, h0_2, ()), ())) : SM_sl7Draw.den).2) = some (g_sl7Draw (((), ()), ((h0_0, h0_1, h0_2, ()), ()))) := by
  refine Eq.trans (b := (cond (q_sl1Below (4 : Int) h0_0 h0_1 h0_2) (cond ((k2_sl7Draw h0_0 h0_1 h0_2).1 == 0) (some (e_sl7Draw (((k2_sl7Draw h0_0 h0_1 h0_2).2.1), ((k2_sl7Draw h0_0 h0_1 h0_2).2.2.1), ((k2_sl7Draw h0_0 h0_1 h0_2).2.2.2.1), ((k2_sl7Draw h0_0 h0_1 h0_2).2.2.2.2)))) none) none)) (by kernel_rfl) ?_
  exact (cndT (andL hp) (fun _h => (fun hp => (cndT hp (fun _h => rfl))) (andR hp)))
theorem run_sl7Draw : ∀ d : SM_sl7Draw.den, pre_sl7Draw d = true → runM Try.prog tt S9 QF9 (fun b => match b with | 0 => say_sl7Draw_0 | _ => fun _ => none) Try.f115 (shsMk SM_sl7Draw.sl (d : SM_sl7Draw.den).1) (ohsMk SM_sl7Draw.hp (d : SM_sl7Draw.den).2) = some (g_sl7Draw d) := fun d hp => runA_sl7Draw d.2.1.1 d.2.1.2.1 d.2.1.2.2.1 hp
theorem c_sl7Draw : MContract Try.prog 115 (win winIds (msum SM_sl7Draw pre_sl7Draw g_sl7Draw)) := (MContract.of_data G9 (fn := Try.f115) (by kernel_rfl) (L := fun b => match b with | 0 => say_sl7Draw_0 | _ => fun _ => none) (by rw [show loopsIn 0 (bodyOf Try.f115) = [(0, body_sl7Draw_0)] by kernel_rfl]; intro p hp; simp only [List.mem_singleton] at hp; subst hp; exact lw_sl7Draw_0) SM_sl7Draw pre_sl7Draw g_sl7Draw run_sl7Draw).win winIds
noncomputable def S10 : Tab := Tab.add S9 115 (win winIds (msum SM_sl7Draw pre_sl7Draw g_sl7Draw))
noncomputable def QF10 : FuncId → Bool := QF9
theorem G10 : Good Try.prog tt S10 QF10 := G9.addM c_sl7Draw (win_local _) ⟨Try.f115, by kernel_rfl, by kernel_rfl, by kernel_rfl⟩ (by kernel_rfl)

/-! 156 loop.example/g00244/spec.l1Once -/
noncomputable abbrev SM_sl1Once : SS := ⟨[.ptr 0 0 1 0, .t true (.int .i64)], [.box [.t false (.sl (.int .u8)), .t true (.int .i64), .t true (.int .i64)]]⟩
noncomputable def sl1Once (x1 : Int) (h0_0 : List Int) (h0_1 : Int) (h0_2 : Int) : Bool × (List Int) × Int × Int := ((((sl1Below x1 h0_0 h0_1 h0_2).1) == (0 : Int)), ((sl1Below x1 h0_0 h0_1 h0_2).2.1), ((sl1Below x1 h0_0 h0_1 h0_2).2.2.1), ((sl1Below x1 h0_0 h0_1 h0_2).2.2.2))
noncomputable abbrev e_sl1Once (r : Bool × (List Int) × Int × Int) : AV × List AObj × List Nat := ((.t true .bool r.1), [(.box [(.t false (.sl (.int .u8)) r.2.1), (.t true (.int .i64) r.2.2.1), (.t true (.int .i64) r.2.2.2)])], [])
noncomputable abbrev g_sl1Once : SM_sl1Once.den → AV × List AObj × List Nat := fun d => e_sl1Once (sl1Once d.1.2.1 d.2.1.1 d.2.1.2.1 d.2.1.2.2.1)
noncomputable def q_sl1Once (x1 : Int) (h0_0 : List Int) (h0_1 : Int) (h0_2 : Int) : Bool := q_sl1Below x1 h0_0 h0_1 h0_2
noncomputable abbrev pre_sl1Once : SM_sl1Once.den → Bool := fun d => q_sl1Once d.1.2.1 d.2.1.1 d.2.1.2.1 d.2.1.2.2.1
theorem runA_sl1Once (x1 : Int) (h0_0 : List Int) (h0_1 : Int) (h0_2 : Int) (hp : (q_sl1Below x1 h0_0 h0_1 h0_2) = true) : runM Try.prog tt S10 QF10 (fun _ _ => none) Try.f156 (shsMk SM_sl1Once.sl ((((), x1, ()), ((h0_0, h0_1, h0_2, ()), ())) : SM_sl1Once.den).1) (ohsMk SM_sl1Once.hp ((((), x1, ()), ((h0_0, h0_1, h0_2, ()), ())) : SM_sl1Once.den).2) = some (g_sl1Once (((), x1, ()), ((h0_0, h0_1, h0_2, ()), ()))) := by
  refine Eq.trans (b := (cond (q_sl1Below x1 h0_0 h0_1 h0_2) (some (e_sl1Once ((((sl1Below x1 h0_0 h0_1 h0_2).1) == (0 : Int)), ((sl1Below x1 h0_0 h0_1 h0_2).2.1), ((sl1Below x1 h0_0 h0_1 h0_2).2.2.1), ((sl1Below x1 h0_0 h0_1 h0_2).2.2.2)))) none)) (by kernel_rfl) ?_
  exact (cndT hp (fun _h => rfl))
theorem run_sl1Once : ∀ d : SM_sl1Once.den, pre_sl1Once d = true → runM Try.prog tt S10 QF10 (fun _ _ => none) Try.f156 (shsMk SM_sl1Once.sl (d : SM_sl1Once.den).1) (ohsMk SM_sl1Once.hp (d : SM_sl1Once.den).2) = some (g_sl1Once d) := fun d hp => runA_sl1Once d.1.2.1 d.2.1.1 d.2.1.2.1 d.2.1.2.2.1 hp
theorem c_sl1Once : MContract Try.prog 156 (win winIds (msum SM_sl1Once pre_sl1Once g_sl1Once)) := (MContract.of_data G10 (fn := Try.f156) (by kernel_rfl) (L := fun _ _ => none) (by rw [show loopsIn 0 (bodyOf Try.f156) = [] by kernel_rfl]; simp) SM_sl1Once pre_sl1Once g_sl1Once run_sl1Once).win winIds
noncomputable def S11 : Tab := Tab.add S10 156 (win winIds (msum SM_sl1Once pre_sl1Once g_sl1Once))
noncomputable def QF11 : FuncId → Bool := QF10
theorem G11 : Good Try.prog tt S11 QF11 := G10.addM c_sl1Once (win_local _) ⟨Try.f156, by kernel_rfl, by kernel_rfl, by kernel_rfl⟩ (by kernel_rfl)

/-! 134 loop.example/g00244/spec.l3KeyAny -/
noncomputable abbrev SM_sl3KeyAny : SS := ⟨[.ptr 0 0 1 0], [.box [.t false (.sl (.int .u8)), .t true (.int .i64), .t true (.int .i64)]]⟩
noncomputable def k1_sl3KeyAny (h0_0 : List Int) (h0_1 : Int) (h0_2 : Int) := sl1Str ((sl1Once (6 : Int) h0_0 h0_1 h0_2).2.1) ((sl1Once (6 : Int) h0_0 h0_1 h0_2).2.2.1) ((sl1Once (6 : Int) h0_0 h0_1 h0_2).2.2.2) ([(⟨#[]⟩ : ByteArray), (⟨#[65]⟩ : ByteArray), (⟨#[97, 32, 98]⟩ : ByteArray), (⟨#[116, 104, 105, 114, 116, 101, 101, 110, 98, 121, 116, 101, 115]⟩ : ByteArray), (⟨#[116, 119, 101, 108, 118, 101, 98, 121, 116, 101, 115, 49]⟩ : ByteArray)])
noncomputable def k2_sl3KeyAny (h0_0 : List Int) (h0_1 : Int) (h0_2 : Int) := sl3Key ((sl1Once (6 : Int) h0_0 h0_1 h0_2).2.1) ((sl1Once (6 : Int) h0_0 h0_1 h0_2).2.2.1) ((sl1Once (6 : Int) h0_0 h0_1 h0_2).2.2.2)
noncomputable def sl3KeyAny (h0_0 : List Int) (h0_1 : Int) (h0_2 : Int) : ByteArray × (List Int) × Int × Int := (cond ((sl1Once (6 : Int) h0_0 h0_1 h0_2).1) (((k1_sl3KeyAny h0_0 h0_1 h0_2).1), ((k1_sl3KeyAny h0_0 h0_1 h0_2).2.1), ((k1_sl3KeyAny h0_0 h0_1 h0_2).2.2.1), ((k1_sl3KeyAny h0_0 h0_1 h0_2).2.2.2.1)) (((k2_sl3KeyAny h0_0 h0_1 h0_2).1), ((k2_sl3KeyAny h0_0 h0_1 h0_2).2.1), ((k2_sl3KeyAny h0_0 h0_1 h0_2).2.2.1), ((k2_sl3KeyAny h0_0 h0_1 h0_2).2.2.2)))
noncomputable abbrev e_sl3KeyAny (r : ByteArray × (List Int) × Int × Int) : AV × List AObj × List Nat := ((.t true .str r.1), [(.box [(.t false (.sl (.int .u8)) r.2.1), (.t true (.int .i64) r.2.2.1), (.t true (.int .i64) r.2.2.2)])], [])
noncomputable abbrev g_sl3KeyAny : SM_sl3KeyAny.den → AV × List AObj × List Nat := fun d => e_sl3KeyAny (sl3KeyAny d.2.1.1 d.2.1.2.1 d.2.1.2.2.1)
noncomputable def q_sl3KeyAny (h0_0 : List Int) (h0_1 : Int) (h0_2 : Int) : Bool := (q_sl1Once (6 : Int) h0_0 h0_1 h0_2) && (cond ((sl1Once (6 : Int) h0_0 h0_1 h0_2).1) (q_sl1Str ((sl1Once (6 : Int) h0_0 h0_1 h0_2).2.1) ((sl1Once (6 : Int) h0_0 h0_1 h0_2).2.2.1) ((sl1Once (6 : Int) h0_0 h0_1 h0_2).2.2.2) ([(⟨#[]⟩ : ByteArray), (⟨#[65]⟩ : ByteArray), (⟨#[97, 32, 98]⟩ : ByteArray), (⟨#[116, 104, 105, 114, 116, 101, 101, 110, 98, 121, 116, 101, 115]⟩ : ByteArray), (⟨#[116, 119, 101, 108, 118, 101, 98, 121, 116, 101, 115, 49]⟩ : ByteArray)])) (q_sl3Key ((sl1Once (6 : Int) h0_0 h0_1 h0_2).2.1) ((sl1Once (6 : Int) h0_0 h0_1 h0_2).2.2.1) ((sl1Once (6 : Int) h0_0 h0_1 h0_2).2.2.2)))
noncomputable abbrev pre_sl3KeyAny : SM_sl3KeyAny.den → Bool := fun d => q_sl3KeyAny d.2.1.1 d.2.1.2.1 d.2.1.2.2.1
theorem runA_sl3KeyAny (h0_0 : List Int) (h0_1 : Int) (h0_2 : Int) (hp : ((q_sl1Once (6 : Int) h0_0 h0_1 h0_2) && (cond ((sl1Once (6 : Int) h0_0 h0_1 h0_2).1) (q_sl1Str ((sl1Once (6 : Int) h0_0 h0_1 h0_2).2.1) ((sl1Once (6 : Int) h0_0 h0_1 h0_2).2.2.1) ((sl1Once (6 : Int) h0_0 h0_1 h0_2).2.2.2) ([(⟨#[]⟩ : ByteArray), (⟨#[65]⟩ : ByteArray), (⟨#[97, 32, 98]⟩ : ByteArray), (⟨#[116, 104, 105, 114, 116, 101, 101, 110, 98, 121, 116, 101, 115]⟩ : ByteArray), (⟨#[116, 119, 101, 108, 118, 101, 98, 121, 116, 101, 115, 49]⟩ : ByteArray)])) (q_sl3Key ((sl1Once (6 : Int) h0_0 h0_1 h0_2).2.1) ((sl1Once (6 : Int) h0_0 h0_1 h0_2).2.2.1) ((sl1Once (6 : Int) h0_0 h0_1 h0_2).2.2.2)))) = true) : runM Try.prog tt S11 QF11 (fun _ _ => none) Try.f134 (shsMk SM_sl3KeyAny.sl ((((), ()), ((h0_0, h0_1, h0_2, ()), ())) : SM_sl3KeyAny.den).1) (ohsMk SM_sl3KeyAny.hp ((((), ()), ((h0_0, h0_1, h0_2, ()), ())) : SM_sl3KeyAny.den).2) = some (g_sl3KeyAny (((), ()), ((h0_0, h0_1, h0_2, ()), ()))) := by
  refine Eq.trans (b := (cond (q_sl1Once (6 : Int) h0_0 h0_1 h0_2) (cond ((sl1Once (6 : Int) h0_0 h0_1 h0_2).1) (cond (q_sl1Str ((sl1Once (6 : Int) h0_0 h0_1 h0_2).2.1) ((sl1Once (6 : Int) h0_0 h0_1 h0_2).2.2.1) ((sl1Once (6 : Int) h0_0 h0_1 h0_2).2.2.2) ([(⟨#[]⟩ : ByteArray), (⟨#[65]⟩ : ByteArray), (⟨#[97, 32, 98]⟩ : ByteArray), (⟨#[116, 104, 105, 114, 116, 101, 101, 110, 98, 121, 116, 101, 115]⟩ : ByteArray), (⟨#[116, 119, 101, 108, 118, 101, 98, 121, 116, 101, 115, 49]⟩ : ByteArray)])) (some (e_sl3KeyAny (((k1_sl3KeyAny h0_0 h0_1 h0_2).1), ((k1_sl3KeyAny h0_0 h0_1 h0_2).2.1), ((k1_sl3KeyAny h0_0 h0_1 h0_2).2.2.1), ((k1_sl3KeyAny h0_0 h0_1 h0_2).2.2.2.1)))) none) (cond (q_sl3Key ((sl1Once (6 : Int) h0_0 h0_1 h0_2).2.1) ((sl1Once (6 : Int) h0_0 h0_1 h0_2).2.2.1) ((sl1Once (6 : Int) h0_0 h0_1 h0_2).2.2.2)) (some (e_sl3KeyAny (((k2_sl3KeyAny h0_0 h0_1 h0_2).1), ((k2_sl3KeyAny h0_0 h0_1 h0_2).2.1), ((k2_sl3KeyAny h0_0 h0_1 h0_2).2.2.1), ((k2_sl3KeyAny h0_0 h0_1 h0_2).2.2.2)))) none)) none)) (by kernel_rfl) ?_
  exact (cndT (andL hp) (fun _h => (fun hp => (cndQ (F := fun r => some (e_sl3KeyAny r)) hp (fun hp => (cndT hp (fun _h => rfl))) (fun hp => (cndT hp (fun _h => rfl))))) (andR hp)))
theorem run_sl3KeyAny : ∀ d : SM_sl3KeyAny.den, pre_sl3KeyAny d = true → runM Try.prog tt S11 QF11 (fun _ _ => none) Try.f134 (shsMk SM_sl3KeyAny.sl (d : SM_sl3KeyAny.den).1) (ohsMk SM_sl3KeyAny.hp (d : SM_sl3KeyAny.den).2) = some (g_sl3KeyAny d) := fun d hp => runA_sl3KeyAny d.2.1.1 d.2.1.2.1 d.2.1.2.2.1 hp
theorem c_sl3KeyAny : MContract Try.prog 134 (win winIds (msum SM_sl3KeyAny pre_sl3KeyAny g_sl3KeyAny)) := (MContract.of_data G11 (fn := Try.f134) (by kernel_rfl) (L := fun _ _ => none) (by rw [show loopsIn 0 (bodyOf Try.f134) = [] by kernel_rfl]; simp) SM_sl3KeyAny pre_sl3KeyAny g_sl3KeyAny run_sl3KeyAny).win winIds
noncomputable def S12 : Tab := Tab.add S11 134 (win winIds (msum SM_sl3KeyAny pre_sl3KeyAny g_sl3KeyAny))
noncomputable def QF12 : FuncId → Bool := QF11
theorem G12 : Good Try.prog tt S12 QF12 := G11.addM c_sl3KeyAny (win_local _) ⟨Try.f134, by kernel_rfl, by kernel_rfl, by kernel_rfl⟩ (by kernel_rfl)

/-! 114 loop.example/g00244/spec.l7Any -/
noncomputable abbrev SM_sl7Any : SS := ⟨[.ptr 0 0 1 0], [.box [.t false (.sl (.int .u8)), .t true (.int .i64), .t true (.int .i64)]]⟩
noncomputable def k1_sl7Any (h0_0 : List Int) (h0_1 : Int) (h0_2 : Int) := sl1Below (10 : Int) ((sl7Draw h0_0 h0_1 h0_2).1) ((sl7Draw h0_0 h0_1 h0_2).2.1) ((sl7Draw h0_0 h0_1 h0_2).2.2.1)
noncomputable def k2_sl7Any (h0_0 : List Int) (h0_1 : Int) (h0_2 : Int) := sl7Op1 ((k1_sl7Any h0_0 h0_1 h0_2).2.1) ((k1_sl7Any h0_0 h0_1 h0_2).2.2.1) ((k1_sl7Any h0_0 h0_1 h0_2).2.2.2)
noncomputable def k3_sl7Any (h0_0 : List Int) (h0_1 : Int) (h0_2 : Int) := sl1Below (5 : Int) ((k1_sl7Any h0_0 h0_1 h0_2).2.1) ((k1_sl7Any h0_0 h0_1 h0_2).2.2.1) ((k1_sl7Any h0_0 h0_1 h0_2).2.2.2)
noncomputable def k4_sl7Any (h0_0 : List Int) (h0_1 : Int) (h0_2 : Int) := sl3KeyAny ((k1_sl7Any h0_0 h0_1 h0_2).2.1) ((k1_sl7Any h0_0 h0_1 h0_2).2.2.1) ((k1_sl7Any h0_0 h0_1 h0_2).2.2.2)
noncomputable def k5_sl7Any (h0_0 : List Int) (h0_1 : Int) (h0_2 : Int) := sl1Below (2 : Int) ((k1_sl7Any h0_0 h0_1 h0_2).2.1) ((k1_sl7Any h0_0 h0_1 h0_2).2.2.1) ((k1_sl7Any h0_0 h0_1 h0_2).2.2.2)
noncomputable def sl7Any (h0_0 : List Int) (h0_1 : Int) (h0_2 : Int) : (List (Int × ByteArray × ByteArray)) × (List Int) × Int × Int := (cond (((k1_sl7Any h0_0 h0_1 h0_2).1) == (0 : Int)) (((sl7Draw h0_0 h0_1 h0_2).2.2.2) ++ [(((k2_sl7Any h0_0 h0_1 h0_2).1), (((k2_sl7Any h0_0 h0_1 h0_2).2.1), ((k2_sl7Any h0_0 h0_1 h0_2).2.2.1)))], ((k2_sl7Any h0_0 h0_1 h0_2).2.2.2.1), ((k2_sl7Any h0_0 h0_1 h0_2).2.2.2.2.1), ((k2_sl7Any h0_0 h0_1 h0_2).2.2.2.2.2.1)) (cond (((k1_sl7Any h0_0 h0_1 h0_2).1) == (1 : Int)) (((sl7Draw h0_0 h0_1 h0_2).2.2.2).set ((0 : Int).toNat) (((k3_sl7Any h0_0 h0_1 h0_2).1), (((((sl7Draw h0_0 h0_1 h0_2).2.2.2).getD ((0 : Int).toNat) ((0 : Int), ((⟨#[]⟩ : ByteArray), (⟨#[]⟩ : ByteArray)))).2).1, ((((sl7Draw h0_0 h0_1 h0_2).2.2.2).getD ((0 : Int).toNat) ((0 : Int), ((⟨#[]⟩ : ByteArray), (⟨#[]⟩ : ByteArray)))).2).2)), ((k3_sl7Any h0_0 h0_1 h0_2).2.1), ((k3_sl7Any h0_0 h0_1 h0_2).2.2.1), ((k3_sl7Any h0_0 h0_1 h0_2).2.2.2)) (cond (((k1_sl7Any h0_0 h0_1 h0_2).1) == (2 : Int)) (((sl7Draw h0_0 h0_1 h0_2).2.2.2).set ((0 : Int).toNat) ((((sl7Draw h0_0 h0_1 h0_2).2.2.2).getD ((0 : Int).toNat) ((0 : Int), ((⟨#[]⟩ : ByteArray), (⟨#[]⟩ : ByteArray)))).1, (((k4_sl7Any h0_0 h0_1 h0_2).1), ((((sl7Draw h0_0 h0_1 h0_2).2.2.2).getD ((0 : Int).toNat) ((0 : Int), ((⟨#[]⟩ : ByteArray), (⟨#[]⟩ : ByteArray)))).2).2)), ((k4_sl7Any h0_0 h0_1 h0_2).2.1), ((k4_sl7Any h0_0 h0_1 h0_2).2.2.1), ((k4_sl7Any h0_0 h0_1 h0_2).2.2.2)) (cond (((k1_sl7Any h0_0 h0_1 h0_2).1) == (3 : Int)) (((sl7Draw h0_0 h0_1 h0_2).2.2.2).set ((0 : Int).toNat) ((((sl7Draw h0_0 h0_1 h0_2).2.2.2).getD ((0 : Int).toNat) ((0 : Int), ((⟨#[]⟩ : ByteArray), (⟨#[]⟩ : ByteArray)))).1, (((((sl7Draw h0_0 h0_1 h0_2).2.2.2).getD ((0 : Int).toNat) ((0 : Int), ((⟨#[]⟩ : ByteArray), (⟨#[]⟩ : ByteArray)))).2).1, (⟨((List.replicate (IntKind.wrap .i64 ((20 : Int) + ((k5_sl7Any h0_0 h0_1 h0_2).1))).toNat (0 : Int)).map fun n => UInt8.ofNat n.toNat).toArray⟩ : ByteArray))), ((k5_sl7Any h0_0 h0_1 h0_2).2.1), ((k5_sl7Any h0_0 h0_1 h0_2).2.2.1), ((k5_sl7Any h0_0 h0_1 h0_2).2.2.2)) (cond (((k1_sl7Any h0_0 h0_1 h0_2).1) == (4 : Int)) ((((sl7Draw h0_0 h0_1 h0_2).2.2.2).drop ((0 : Int).toNat)).take ((0 : Int).toNat - (0 : Int).toNat), ((k1_sl7Any h0_0 h0_1 h0_2).2.1), ((k1_sl7Any h0_0 h0_1 h0_2).2.2.1), ((k1_sl7Any h0_0 h0_1 h0_2).2.2.2)) (((sl7Draw h0_0 h0_1 h0_2).2.2.2), ((k1_sl7Any h0_0 h0_1 h0_2).2.1), ((k1_sl7Any h0_0 h0_1 h0_2).2.2.1), ((k1_sl7Any h0_0 h0_1 h0_2).2.2.2)))))))
noncomputable abbrev e_sl7Any (r : (List (Int × ByteArray × ByteArray)) × (List Int) × Int × Int) : AV × List AObj × List Nat := ((.t true (.sl (.pair (.int .i64) (.pair .str .str))) r.1), [(.box [(.t false (.sl (.int .u8)) r.2.1), (.t true (.int .i64) r.2.2.1), (.t true (.int .i64) r.2.2.2)])], [])
noncomputable abbrev g_sl7Any : SM_sl7Any.den → AV × List AObj × List Nat := fun d => e_sl7Any (sl7Any d.2.1.1 d.2.1.2.1 d.2.1.2.2.1)
noncomputable def q_sl7Any (h0_0 : List Int) (h0_1 : Int) (h0_2 : Int) : Bool := (q_sl7Draw h0_0 h0_1 h0_2) && ((q_sl1Below (10 : Int) ((sl7Draw h0_0 h0_1 h0_2).1) ((sl7Draw h0_0 h0_1 h0_2).2.1) ((sl7Draw h0_0 h0_1 h0_2).2.2.1)) && (cond (((k1_sl7Any h0_0 h0_1 h0_2).1) == (0 : Int)) ((q_sl7Op1 ((k1_sl7Any h0_0 h0_1 h0_2).2.1) ((k1_sl7Any h0_0 h0_1 h0_2).2.2.1) ((k1_sl7Any h0_0 h0_1 h0_2).2.2.2)) && (decide ((((sl7Draw h0_0 h0_1 h0_2).2.2.2).length + [(((k2_sl7Any h0_0 h0_1 h0_2).1), (((k2_sl7Any h0_0 h0_1 h0_2).2.1), ((k2_sl7Any h0_0 h0_1 h0_2).2.2.1)))].length) * 40 ≤ MAXB))) (cond (((k1_sl7Any h0_0 h0_1 h0_2).1) == (1 : Int)) ((q_sl1Below (5 : Int) ((k1_sl7Any h0_0 h0_1 h0_2).2.1) ((k1_sl7Any h0_0 h0_1 h0_2).2.2.1) ((k1_sl7Any h0_0 h0_1 h0_2).2.2.2)) && (decide (0 ≤ (0 : Int) ∧ (0 : Int) < ((((sl7Draw h0_0 h0_1 h0_2).2.2.2).length : Nat) : Int)))) (cond (((k1_sl7Any h0_0 h0_1 h0_2).1) == (2 : Int)) ((q_sl3KeyAny ((k1_sl7Any h0_0 h0_1 h0_2).2.1) ((k1_sl7Any h0_0 h0_1 h0_2).2.2.1) ((k1_sl7Any h0_0 h0_1 h0_2).2.2.2)) && (decide (0 ≤ (0 : Int) ∧ (0 : Int) < ((((sl7Draw h0_0 h0_1 h0_2).2.2.2).length : Nat) : Int)))) (cond (((k1_sl7Any h0_0 h0_1 h0_2).1) == (3 : Int)) ((q_sl1Below (2 : Int) ((k1_sl7Any h0_0 h0_1 h0_2).2.1) ((k1_sl7Any h0_0 h0_1 h0_2).2.2.1) ((k1_sl7Any h0_0 h0_1 h0_2).2.2.2)) && ((decide (0 ≤ (IntKind.wrap .i64 ((20 : Int) + ((k5_sl7Any h0_0 h0_1 h0_2).1))) ∧ (IntKind.wrap .i64 ((20 : Int) + ((k5_sl7Any h0_0 h0_1 h0_2).1))) = (IntKind.wrap .i64 ((20 : Int) + ((k5_sl7Any h0_0 h0_1 h0_2).1))) ∧ (IntKind.wrap .i64 ((20 : Int) + ((k5_sl7Any h0_0 h0_1 h0_2).1))).toNat * 1 ≤ MAXB ∧ (IntKind.wrap .i64 ((20 : Int) + ((k5_sl7Any h0_0 h0_1 h0_2).1))) ≤ 9223372036854775807)) && (decide (0 ≤ (0 : Int) ∧ (0 : Int) < ((((sl7Draw h0_0 h0_1 h0_2).2.2.2).length : Nat) : Int))))) (cond (((k1_sl7Any h0_0 h0_1 h0_2).1) == (4 : Int)) (decide (0 ≤ (0 : Int) ∧ (0 : Int) ≤ (0 : Int) ∧ (0 : Int) ≤ ((((sl7Draw h0_0 h0_1 h0_2).2.2.2).length : Nat) : Int))) true))))))
noncomputable abbrev pre_sl7Any : SM_sl7Any.den → Bool := fun d => q_sl7Any d.2.1.1 d.2.1.2.1 d.2.1.2.2.1
theorem runA_sl7Any (h0_0 : List Int) (h0_1 : Int) (h0_2 : Int) (hp : ((q_sl7Draw h0_0 h0_1 h0_2) && ((q_sl1Below (10 : Int) ((sl7Draw h0_0 h0_1 h0_2).1) ((sl7Draw h0_0 h0_1 h0_2).2.1) ((sl7Draw h0_0 h0_1 h0_2).2.2.1)) && (cond (((k1_sl7Any h0_0 h0_1 h0_2).1) == (0 : Int)) ((q_sl7Op1 ((k1_sl7Any h0_0 h0_1 h0_2).2.1) ((k1_sl7Any h0_0 h0_1 h0_2).2.2.1) ((k1_sl7Any h0_0 h0_1 h0_2).2.2.2)) && (decide ((((sl7Draw h0_0 h0_1 h0_2).2.2.2).length + [(((k2_sl7Any h0_0 h0_1 h0_2).1), (((k2_sl7Any h0_0 h0_1 h0_2).2.1), ((k2_sl7Any h0_0 h0_1 h0_2).2.2.1)))].length) * 40 ≤ MAXB))) (cond (((k1_sl7Any h0_0 h0_1 h0_2).1) == (1 : Int)) ((q_sl1Below (5 : Int) ((k1_sl7Any h0_0 h0_1 h0_2).2.1) ((k1_sl7Any h0_0 h0_1 h0_2).2.2.1) ((k1_sl7Any h0_0 h0_1 h0_2).2.2.2)) && (decide (0 ≤ (0 : Int) ∧ (0 : Int) < ((((sl7Draw h0_0 h0_1 h0_2).2.2.2).length : Nat) : Int)))) (cond (((k1_sl7Any h0_0 h0_1 h0_2).1) == (2 : Int)) ((q_sl3KeyAny ((k1_sl7Any h0_0 h0_1 h0_2).2.1) ((k1_sl7Any h0_0 h0_1 h0_2).2.2.1) ((k1_sl7Any h0_0 h0_1 h0_2).2.2.2)) && (decide (0 ≤ (0 : Int) ∧ (0 : Int) < ((((sl7Draw h0_0 h0_1 h0_2).2.2.2).length : Nat) : Int)))) (cond (((k1_sl7Any h0_0 h0_1 h0_2).1) == (3 : Int)) ((q_sl1Below (2 : Int) ((k1_sl7Any h0_0 h0_1 h0_2).2.1) ((k1_sl7Any h0_0 h0_1 h0_2).2.2.1) ((k1_sl7Any h0_0 h0_1 h0_2).2.2.2)) && ((decide (0 ≤ (IntKind.wrap .i64 ((20 : Int) + ((k5_sl7Any h0_0 h0_1 h0_2).1))) ∧ (IntKind.wrap .i64 ((20 : Int) + ((k5_sl7Any h0_0 h0_1 h0_2).1))) = (IntKind.wrap .i64 ((20 : Int) + ((k5_sl7Any h0_0 h0_1 h0_2).1))) ∧ (IntKind.wrap .i64 ((20 : Int) + ((k5_sl7Any h0_0 h0_1 h0_2).1))).toNat * 1 ≤ MAXB ∧ (IntKind.wrap .i64 ((20 : Int) + ((k5_sl7Any h0_0 h0_1 h0_2).1))) ≤ 9223372036854775807)) && (decide (0 ≤ (0 : Int) ∧ (0 : Int) < ((((sl7Draw h0_0 h0_1 h0_2).2.2.2).length : Nat) : Int))))) (cond (((k1_sl7Any h0_0 h0_1 h0_2).1) == (4 : Int)) (decide (0 ≤ (0 : Int) ∧ (0 : Int) ≤ (0 : Int) ∧ (0 : Int) ≤ ((((sl7Draw h0_0 h0_1 h0_2).2.2.2).length : Nat) : Int))) true))))))) = true) : runMR Try.prog tt S12 QF12 (fun _ _ => none) Try.f114 (shsMk SM_sl7Any.sl ((((), ()), ((h0_0, h0_1, h0_2, ()), ())) : SM_sl7Any.den).1) (ohsMk SM_sl7Any.hp ((((), ()), ((h0_0, h0_1, h0_2, ()), ())) : SM_sl7Any.den).2) = some (g_sl7Any (((), ()), ((h0_0, h0_1, h0_2, ()), ()))) := by
  refine Eq.trans (b := (cond (q_sl7Draw h0_0 h0_1 h0_2) (cond (q_sl1Below (10 : Int) ((sl7Draw h0_0 h0_1 h0_2).1) ((sl7Draw h0_0 h0_1 h0_2).2.1) ((sl7Draw h0_0 h0_1 h0_2).2.2.1)) (cond (((k1_sl7Any h0_0 h0_1 h0_2).1) == (0 : Int)) (cond (q_sl7Op1 ((k1_sl7Any h0_0 h0_1 h0_2).2.1) ((k1_sl7Any h0_0 h0_1 h0_2).2.2.1) ((k1_sl7Any h0_0 h0_1 h0_2).2.2.2)) (cond (decide ((((sl7Draw h0_0 h0_1 h0_2).2.2.2).length + [(((k2_sl7Any h0_0 h0_1 h0_2).1), (((k2_sl7Any h0_0 h0_1 h0_2).2.1), ((k2_sl7Any h0_0 h0_1 h0_2).2.2.1)))].length) * 40 ≤ MAXB)) (some (e_sl7Any (((sl7Draw h0_0 h0_1 h0_2).2.2.2) ++ [(((k2_sl7Any h0_0 h0_1 h0_2).1), (((k2_sl7Any h0_0 h0_1 h0_2).2.1), ((k2_sl7Any h0_0 h0_1 h0_2).2.2.1)))], ((k2_sl7Any h0_0 h0_1 h0_2).2.2.2.1), ((k2_sl7Any h0_0 h0_1 h0_2).2.2.2.2.1), ((k2_sl7Any h0_0 h0_1 h0_2).2.2.2.2.2.1)))) none) none) (cond (((k1_sl7Any h0_0 h0_1 h0_2).1) == (1 : Int)) (cond (q_sl1Below (5 : Int) ((k1_sl7Any h0_0 h0_1 h0_2).2.1) ((k1_sl7Any h0_0 h0_1 h0_2).2.2.1) ((k1_sl7Any h0_0 h0_1 h0_2).2.2.2)) (cond (decide (0 ≤ (0 : Int) ∧ (0 : Int) < ((((sl7Draw h0_0 h0_1 h0_2).2.2.2).length : Nat) : Int))) (some (e_sl7Any (((sl7Draw h0_0 h0_1 h0_2).2.2.2).set ((0 : Int).toNat) (((k3_sl7Any h0_0 h0_1 h0_2).1), (((((sl7Draw h0_0 h0_1 h0_2).2.2.2).getD ((0 : Int).toNat) ((0 : Int), ((⟨#[]⟩ : ByteArray), (⟨#[]⟩ : ByteArray)))).2).1, ((((sl7Draw h0_0 h0_1 h0_2).2.2.2).getD ((0 : Int).toNat) ((0 : Int), ((⟨#[]⟩ : ByteArray), (⟨#[]⟩ : ByteArray)))).2).2)), ((k3_sl7Any h0_0 h0_1 h0_2).2.1), ((k3_sl7Any h0_0 h0_1 h0_2).2.2.1), ((k3_sl7Any h0_0 h0_1 h0_2).2.2.2)))) none) none) (cond (((k1_sl7Any h0_0 h0_1 h0_2).1) == (2 : Int)) (cond (q_sl3KeyAny ((k1_sl7Any h0_0 h0_1 h0_2).2.1) ((k1_sl7Any h0_0 h0_1 h0_2).2.2.1) ((k1_sl7Any h0_0 h0_1 h0_2).2.2.2)) (cond (decide (0 ≤ (0 : Int) ∧ (0 : Int) < ((((sl7Draw h0_0 h0_1 h0_2).2.2.2).length : Nat) : Int))) (some (e_sl7Any (((sl7Draw h0_0 h0_1 h0_2).2.2.2).set ((0 : Int).toNat) ((((sl7Draw h0_0 h0_1 h0_2).2.2.2).getD ((0 : Int).toNat) ((0 : Int), ((⟨#[]⟩ : ByteArray), (⟨#[]⟩ : ByteArray)))).1, (((k4_sl7Any h0_0 h0_1 h0_2).1), ((((sl7Draw h0_0 h0_1 h0_2).2.2.2).getD ((0 : Int).toNat) ((0 : Int), ((⟨#[]⟩ : ByteArray), (⟨#[]⟩ : ByteArray)))).2).2)), ((k4_sl7Any h0_0 h0_1 h0_2).2.1), ((k4_sl7Any h0_0 h0_1 h0_2).2.2.1), ((k4_sl7Any h0_0 h0_1 h0_2).2.2.2)))) none) none) (cond (((k1_sl7Any h0_0 h0_1 h0_2).1) == (3 : Int)) (cond (q_sl1Below (2 : Int) ((k1_sl7Any h0_0 h0_1 h0_2).2.1) ((k1_sl7Any h0_0 h0_1 h0_2).2.2.1) ((k1_sl7Any h0_0 h0_1 h0_2).2.2.2)) (cond (decide (0 ≤ (IntKind.wrap .i64 ((20 : Int) + ((k5_sl7Any h0_0 h0_1 h0_2).1))) ∧ (IntKind.wrap .i64 ((20 : Int) + ((k5_sl7Any h0_0 h0_1 h0_2).1))) = (IntKind.wrap .i64 ((20 : Int) + ((k5_sl7Any h0_0 h0_1 h0_2).1))) ∧ (IntKind.wrap .i64 ((20 : Int) + ((k5_sl7Any h0_0 h0_1 h0_2).1))).toNat * 1 ≤ MAXB ∧ (IntKind.wrap .i64 ((20 : Int) + ((k5_sl7Any h0_0 h0_1 h0_2).1))) ≤ 9223372036854775807)) (cond (decide (0 ≤ (0 : Int) ∧ (0 : Int) < ((((sl7Draw h0_0 h0_1 h0_2).2.2.2).length : Nat) : Int))) (some (e_sl7Any (((sl7Draw h0_0 h0_1 h0_2).2.2.2).set ((0 : Int).toNat) ((((sl7Draw h0_0 h0_1 h0_2).2.2.2).getD ((0 : Int).toNat) ((0 : Int), ((⟨#[]⟩ : ByteArray), (⟨#[]⟩ : ByteArray)))).1, (((((sl7Draw h0_0 h0_1 h0_2).2.2.2).getD ((0 : Int).toNat) ((0 : Int), ((⟨#[]⟩ : ByteArray), (⟨#[]⟩ : ByteArray)))).2).1, (⟨((List.replicate (IntKind.wrap .i64 ((20 : Int) + ((k5_sl7Any h0_0 h0_1 h0_2).1))).toNat (0 : Int)).map fun n => UInt8.ofNat n.toNat).toArray⟩ : ByteArray))), ((k5_sl7Any h0_0 h0_1 h0_2).2.1), ((k5_sl7Any h0_0 h0_1 h0_2).2.2.1), ((k5_sl7Any h0_0 h0_1 h0_2).2.2.2)))) none) none) none) (cond (((k1_sl7Any h0_0 h0_1 h0_2).1) == (4 : Int)) (cond (decide (0 ≤ (0 : Int) ∧ (0 : Int) ≤ (0 : Int) ∧ (0 : Int) ≤ ((((sl7Draw h0_0 h0_1 h0_2).2.2.2).length : Nat) : Int))) (some (e_sl7Any ((((sl7Draw h0_0 h0_1 h0_2).2.2.2).drop ((0 : Int).toNat)).take ((0 : Int).toNat - (0 : Int).toNat), ((k1_sl7Any h0_0 h0_1 h0_2).2.1), ((k1_sl7Any h0_0 h0_1 h0_2).2.2.1), ((k1_sl7Any h0_0 h0_1 h0_2).2.2.2)))) none) (some (e_sl7Any (((sl7Draw h0_0 h0_1 h0_2).2.2.2), ((k1_sl7Any h0_0 h0_1 h0_2).2.1), ((k1_sl7Any h0_0 h0_1 h0_2).2.2.1), ((k1_sl7Any h0_0 h0_1 h0_2).2.2.2))))))))) none) none)) (by kernel_rfl) ?_
  exact (cndT (andL hp) (fun _h => (fun hp => (cndT (andL hp) (fun _h => (fun hp => (cndQ (F := fun r => some (e_sl7Any r)) hp (fun hp => (cndT (andL hp) (fun _h => (fun hp => (cndT hp (fun _h => rfl))) (andR hp)))) (fun hp => (cndQ (F := fun r => some (e_sl7Any r)) hp (fun hp => (cndT (andL hp) (fun _h => (fun hp => (cndT hp (fun _h => rfl))) (andR hp)))) (fun hp => (cndQ (F := fun r => some (e_sl7Any r)) hp (fun hp => (cndT (andL hp) (fun _h => (fun hp => (cndT hp (fun _h => rfl))) (andR hp)))) (fun hp => (cndQ (F := fun r => some (e_sl7Any r)) hp (fun hp => (cndT (andL hp) (fun _h => (fun hp => (cndT (andL hp) (fun _h => (fun hp => (cndT hp (fun _h => rfl))) (andR hp)))) (andR hp)))) (fun hp => (cndQ (F := fun r => some (e_sl7Any r)) hp (fun hp => (cndT hp (fun _h => rfl))) (fun hp => rfl))))))))))) (andR hp)))) (andR hp)))
theorem run_sl7Any : ∀ d : SM_sl7Any.den, pre_sl7Any d = true → runMR Try.prog tt S12 QF12 (fun _ _ => none) Try.f114 (shsMk SM_sl7Any.sl (d : SM_sl7Any.den).1) (ohsMk SM_sl7Any.hp (d : SM_sl7Any.den).2) = some (g_sl7Any d) := fun d hp => runA_sl7Any d.2.1.1 d.2.1.2.1 d.2.1.2.2.1 hp
theorem c_sl7Any : MContract Try.prog 114 (win winIds (msum SM_sl7Any pre_sl7Any g_sl7Any)) := (MContract.of_dataR G12 (fn := Try.f114) (by kernel_rfl) (L := fun _ _ => none) (by rw [show loopsIn 0 (bodyOf Try.f114) = [] by kernel_rfl]; simp) SM_sl7Any pre_sl7Any g_sl7Any run_sl7Any).win winIds
noncomputable def S13 : Tab := Tab.add S12 114 (win winIds (msum SM_sl7Any pre_sl7Any g_sl7Any))
noncomputable def QF13 : FuncId → Bool := QF12
theorem G13 : Good Try.prog tt S13 QF13 := G12.addM c_sl7Any (win_local _) ⟨Try.f114, by kernel_rfl, by kernel_rfl, by kernel_rfl⟩ (by kernel_rfl)

/-! 53 loop.example/g00244/spec.DrawPutOps -/
noncomputable abbrev P_sDrawPutOps : List PSh := [.t (.sl (.int .u8))]
noncomputable def sDrawPutOps (a0 : List Int) : List (Int × ByteArray × ByteArray) := ((sl7Any ((sl1New a0).1) ((sl1New a0).2.1) ((sl1New a0).2.2)).1)
noncomputable abbrev e_sDrawPutOps (r : List (Int × ByteArray × ByteArray)) : AV × List AObj := ((.t true (.sl (.pair (.int .i64) (.pair .str .str))) r), [])
noncomputable abbrev g_sDrawPutOps : pshsDen P_sDrawPutOps → AV × List AObj := fun d => e_sDrawPutOps (sDrawPutOps d.1)
noncomputable def q_sDrawPutOps (a0 : List Int) : Bool := (q_sl1New a0) && (q_sl7Any ((sl1New a0).1) ((sl1New a0).2.1) ((sl1New a0).2.2))
noncomputable abbrev pre_sDrawPutOps : pshsDen P_sDrawPutOps → Bool := fun d => q_sDrawPutOps d.1
theorem runA_sDrawPutOps (a0 : List Int) (hp : ((q_sl1New a0) && (q_sl7Any ((sl1New a0).1) ((sl1New a0).2.1) ((sl1New a0).2.2))) = true) : runP true Try.prog tt S13 QF13 (fun _ _ => none) Try.f53 (argsMk P_sDrawPutOps (a0, ())) = some (g_sDrawPutOps (a0, ())) := by
  refine Eq.trans (b := (cond (q_sl1New a0) (cond (q_sl7Any ((sl1New a0).1) ((sl1New a0).2.1) ((sl1New a0).2.2)) (some (e_sDrawPutOps ((sl7Any ((sl1New a0).1) ((sl1New a0).2.1) ((sl1New a0).2.2)).1))) none) none)) (by kernel_rfl) ?_
  exact (cndT (andL hp) (fun _h => (fun hp => (cndT hp (fun _h => rfl))) (andR hp)))
theorem run_sDrawPutOps : ∀ d, pre_sDrawPutOps d = true → runP true Try.prog tt S13 QF13 (fun _ _ => none) Try.f53 (argsMk P_sDrawPutOps d) = some (g_sDrawPutOps d) := fun d hp => runA_sDrawPutOps d.1 hp
theorem c_sDrawPutOps : PContract Try.prog 53 (sumOf P_sDrawPutOps pre_sDrawPutOps g_sDrawPutOps) := PContract.of_data true G13 (fn := Try.f53) (by kernel_rfl) (L := fun _ _ => none) (by rw [show loopsIn 0 (bodyOf Try.f53) = [] by kernel_rfl]; simp) P_sDrawPutOps pre_sDrawPutOps g_sDrawPutOps run_sDrawPutOps
noncomputable def S14 : Tab := Tab.add S13 53 (lift (sumOf P_sDrawPutOps pre_sDrawPutOps g_sDrawPutOps))
noncomputable def QF14 : FuncId → Bool := qadd QF13 53
theorem G14 : Good Try.prog tt S14 QF14 := G13.addQ c_sDrawPutOps ⟨Try.f53, by kernel_rfl, by kernel_rfl, by kernel_rfl⟩ (fun _ => rfl)

/-! 89 loop.example/g00244/impl.inRange -/
noncomputable abbrev P_iinRange : List PSh := [.t (.int .i64), .t (.int .i64), .t (.int .i64)]
noncomputable def iinRange (a0 : Int) (a1 : Int) (a2 : Int) : Bool := (cond (decide (a0 ≥ a1)) (decide (a0 ≤ a2)) false)
noncomputable abbrev e_iinRange (r : Bool) : AV × List AObj := ((.t true .bool r), [])
noncomputable abbrev g_iinRange : pshsDen P_iinRange → AV × List AObj := fun d => e_iinRange (iinRange d.1 d.2.1 d.2.2.1)
noncomputable abbrev pre_iinRange : pshsDen P_iinRange → Bool := fun d => true
theorem runA_iinRange (a0 : Int) (a1 : Int) (a2 : Int) : runP true Try.prog tt S14 QF14 (fun _ _ => none) Try.f89 (argsMk P_iinRange (a0, (a1, (a2, ())))) = some (g_iinRange (a0, (a1, (a2, ())))) := by
  refine Eq.trans (b := (cond (decide (a0 ≥ a1)) (some (e_iinRange (decide (a0 ≤ a2)))) (some (e_iinRange false)))) (by kernel_rfl) ?_
  exact (cnd (F := fun r => some (e_iinRange r)) (fun _h => rfl) (fun _h => rfl))
theorem run_iinRange : ∀ d, pre_iinRange d = true → runP true Try.prog tt S14 QF14 (fun _ _ => none) Try.f89 (argsMk P_iinRange d) = some (g_iinRange d) := fun d hp => runA_iinRange d.1 d.2.1 d.2.2.1
theorem c_iinRange : PContract Try.prog 89 (sumOf P_iinRange pre_iinRange g_iinRange) := PContract.of_data true G14 (fn := Try.f89) (by kernel_rfl) (L := fun _ _ => none) (by rw [show loopsIn 0 (bodyOf Try.f89) = [] by kernel_rfl]; simp) P_iinRange pre_iinRange g_iinRange run_iinRange
noncomputable def S15 : Tab := Tab.add S14 89 (lift (sumOf P_iinRange pre_iinRange g_iinRange))
noncomputable def QF15 : FuncId → Bool := qadd QF14 89
theorem G15 : Good Try.prog tt S15 QF15 := G14.addQ c_iinRange ⟨Try.f89, by kernel_rfl, by kernel_rfl, by kernel_rfl⟩ (fun _ => rfl)

/-! 177 loop.example/g00244/impl.isKeyByte -/
noncomputable abbrev P_iisKeyByte : List PSh := [.t (.int .u8)]
noncomputable def iisKeyByte (a0 : Int) : Bool := (cond (decide (a0 ≥ (97 : Int))) (cond (decide (a0 ≤ (122 : Int))) true (cond (decide (a0 ≥ (48 : Int))) (decide (a0 ≤ (57 : Int))) false)) (cond (decide (a0 ≥ (48 : Int))) (decide (a0 ≤ (57 : Int))) false))
noncomputable abbrev e_iisKeyByte (r : Bool) : AV × List AObj := ((.t true .bool r), [])
noncomputable abbrev g_iisKeyByte : pshsDen P_iisKeyByte → AV × List AObj := fun d => e_iisKeyByte (iisKeyByte d.1)
noncomputable abbrev pre_iisKeyByte : pshsDen P_iisKeyByte → Bool := fun d => true
theorem runA_iisKeyByte (a0 : Int) : runP true Try.prog tt S15 QF15 (fun _ _ => none) Try.f177 (argsMk P_iisKeyByte (a0, ())) = some (g_iisKeyByte (a0, ())) := by
  refine Eq.trans (b := (cond (decide (a0 ≥ (97 : Int))) (cond (decide (a0 ≤ (122 : Int))) (some (e_iisKeyByte true)) (cond (decide (a0 ≥ (48 : Int))) (some (e_iisKeyByte (decide (a0 ≤ (57 : Int))))) (some (e_iisKeyByte false)))) (cond (decide (a0 ≥ (48 : Int))) (some (e_iisKeyByte (decide (a0 ≤ (57 : Int))))) (some (e_iisKeyByte false))))) (by kernel_rfl) ?_
  exact (cnd (F := fun r => some (e_iisKeyByte r)) (fun _h => (cnd (F := fun r => some (e_iisKeyByte r)) (fun _h => rfl) (fun _h => (cnd (F := fun r => some (e_iisKeyByte r)) (fun _h => rfl) (fun _h => rfl))))) (fun _h => (cnd (F := fun r => some (e_iisKeyByte r)) (fun _h => rfl) (fun _h => rfl))))
theorem run_iisKeyByte : ∀ d, pre_iisKeyByte d = true → runP true Try.prog tt S15 QF15 (fun _ _ => none) Try.f177 (argsMk P_iisKeyByte d) = some (g_iisKeyByte d) := fun d hp => runA_iisKeyByte d.1
theorem c_iisKeyByte : PContract Try.prog 177 (sumOf P_iisKeyByte pre_iisKeyByte g_iisKeyByte) := PContract.of_data true G15 (fn := Try.f177) (by kernel_rfl) (L := fun _ _ => none) (by rw [show loopsIn 0 (bodyOf Try.f177) = [] by kernel_rfl]; simp) P_iisKeyByte pre_iisKeyByte g_iisKeyByte run_iisKeyByte
noncomputable def S16 : Tab := Tab.add S15 177 (lift (sumOf P_iisKeyByte pre_iisKeyByte g_iisKeyByte))
noncomputable def QF16 : FuncId → Bool := qadd QF15 177
theorem G16 : Good Try.prog tt S16 QF16 := G15.addQ c_iisKeyByte ⟨Try.f177, by kernel_rfl, by kernel_rfl, by kernel_rfl⟩ (fun _ => rfl)

/-! 164 loop.example/g00244/impl.isWord -/
noncomputable def iKeyAt (s : ByteArray) (i : Nat) : Bool := iisKeyByte (bt s (i : Int))
noncomputable abbrev P_iisWord : List PSh := [.t .str]
noncomputable abbrev S_iisWord_0 : SS := ⟨[.t true .str, .junk, .junk, .t true (.int .i64), .junk, .junk, .junk, .junk, .junk, .junk, .junk, .junk, .junk, .junk, .junk], []⟩
noncomputable abbrev E_iisWord_0_0 : SS := ⟨[.junk, .junk, .t true .bool, .junk, .junk, .junk, .junk, .junk, .junk, .junk, .junk, .junk, .junk, .junk, .junk], []⟩
noncomputable abbrev E_iisWord_0_1 : SS := ⟨[.junk, .junk, .junk, .junk, .junk, .junk, .junk, .junk, .junk, .junk, .junk, .junk, .junk, .junk, .junk], []⟩
noncomputable def st_iisWord_0 (x0 : ByteArray) (x3 : Int) : RT S_iisWord_0.den := (.br (decide (x3 < ((x0.size : Nat) : Int))) (.br (decide (0 ≤ x3 ∧ x3 < ((x0.size : Nat) : Int))) (.br (!(iisKeyByte (bt x0 x3))) (.done .ret E_iisWord_0_0 (((), (), false, (), (), (), (), (), (), (), (), (), (), (), (), ()), ())) (.next ((x0, (), (), IntKind.wrap .i64 (x3 + (1 : Int)), (), (), (), (), (), (), (), (), (), (), (), ()), ()))) .fail) (.done (.exit 0) E_iisWord_0_1 (((), (), (), (), (), (), (), (), (), (), (), (), (), (), (), ()), ())))
noncomputable def T_iisWord_0 (x0 : ByteArray) (x3 : Int) : CT := (.br (decide (0 ≤ x3) && okS x0) (.br (allF (iKeyAt x0) (x0.size - x3.toNat) x3.toNat) (.done (.exit 0) E_iisWord_0_1 (((), (), (), (), (), (), (), (), (), (), (), (), (), (), (), ()), ())) (.done .ret E_iisWord_0_0 (((), (), false, (), (), (), (), (), (), (), (), (), (), (), (), ()), ()))) .fail)
noncomputable abbrev sp_iisWord_0 : S_iisWord_0.den → RT S_iisWord_0.den := fun d => st_iisWord_0 d.1.1 d.1.2.2.2.1
noncomputable abbrev pk_iisWord_0 (x0 : ByteArray) (x3 : Int) : S_iisWord_0.den := ((x0, (), (), x3, (), (), (), (), (), (), (), (), (), (), (), ()), ())
noncomputable def body_iisWord_0 : Code := ((loopsIn 0 (bodyOf Try.f164)).getD 0 (0, .skip)).2
theorem R_iisWord_0 (x0 : ByteArray) (x3 : Int) : (T_iisWord_0 x0 x3).val (D := S_iisWord_0.den) = .fail ∨ Runs sp_iisWord_0 (pk_iisWord_0 x0 x3) (T_iisWord_0 x0 x3).val := by
  cases hc : (decide (0 ≤ x3) && okS x0) with
  | false => left; simp only [T_iisWord_0, CT.val, hc, cond_false]
  | true =>
    right
    simp only [T_iisWord_0, CT.val, hc, cond_true]
    simp only [Bool.and_eq_true, decide_eq_true_eq] at hc
    obtain ⟨i, rfl⟩ := Int.eq_ofNat_of_zero_le hc.1
    have hs := okS_le hc.2
    simp only [Int.toNat_natCast]
    refine Runs.scan (fun j => pk_iisWord_0 x0 (j : Int)) (x0.size) (iKeyAt x0) (fun i hi => ?_) (fun i hi => ?_) ⟨_, _, _, rfl, by simp⟩ ⟨_, _, _, rfl, by simp⟩ _ _ rfl
    · 
      have h0a : decide ((i : Int) < ((x0.size : Nat) : Int)) = true := decide_eq_true (by omega)
      have h0b : decide (0 ≤ (i : Int) ∧ (i : Int) < ((x0.size : Nat) : Int)) = true := decide_eq_true (by omega)
      simp only [sp_iisWord_0, st_iisWord_0, RT.val, h0a, h0b, cond_true, wrapS i (by omega), Int.toNat_natCast]
      simp only [iKeyAt]
      cases iisKeyByte (bt x0 (i : Int)) <;> rfl
    · have h1 : decide ((i : Int) < ((x0.size : Nat) : Int)) = false := decide_eq_false (by omega)
      simp only [sp_iisWord_0, st_iisWord_0, RT.val, h1, cond_false]
theorem rd_iisWord_0 : ∀ d, execC Try.prog tt S16 QF16 (fun _ _ => none) 0 body_iisWord_0 (S_iisWord_0.st d 0 []) (fun e s' => some (e, S_iisWord_0.cutE (kepts [2] [(0, [])]) e s')) = (sp_iisWord_0 d).opt 0 [] := by
  intro d
  kernel_rfl
noncomputable abbrev say_iisWord_0 : St → Option Tree := S_iisWord_0.say 0 [] [] (fun d => T_iisWord_0 d.1.1 d.1.2.2.2.1)
theorem lw_iisWord_0 : LoopWp Try.prog say_iisWord_0 body_iisWord_0 := SS.wp G16 (fun _ _ => none) (by rw [show loopsIn 0 body_iisWord_0 = [] by kernel_rfl]; simp) S_iisWord_0 0 [] (kepts [2] [(0, [])]) [] sp_iisWord_0 rd_iisWord_0 _ (fun d => R_iisWord_0 d.1.1 d.1.2.2.2.1)
noncomputable def iisWord (a0 : ByteArray) : Bool := (cond (allF (iKeyAt a0) (a0.size - (0 : Int).toNat) (0 : Int).toNat) true false)
noncomputable abbrev e_iisWord (r : Bool) : AV × List AObj := ((.t true .bool r), [])
noncomputable abbrev g_iisWord : pshsDen P_iisWord → AV × List AObj := fun d => e_iisWord (iisWord d.1)
noncomputable def q_iisWord (a0 : ByteArray) : Bool := okS a0
noncomputable abbrev pre_iisWord : pshsDen P_iisWord → Bool := fun d => q_iisWord d.1
theorem runA_iisWord (a0 : ByteArray) (hp : (okS a0) = true) : runP true Try.prog tt S16 QF16 (fun b => match b with | 0 => say_iisWord_0 | _ => fun _ => none) Try.f164 (argsMk P_iisWord (a0, ())) = some (g_iisWord (a0, ())) := by
  refine Eq.trans (b := (cond (decide (0 ≤ (0 : Int)) && okS a0) (cond (allF (iKeyAt a0) (a0.size - (0 : Int).toNat) (0 : Int).toNat) (some (e_iisWord true)) (some (e_iisWord false))) none)) (by kernel_rfl) ?_
  exact (cndT (by first | rfl | decide | exact hp | (simp only [Bool.and_eq_true] at hp; simp only [hp]; done) | (simp [*]; done) | (simp [okL] at hp; simp [okL, MAXB]; omega) | (simp_all; done) | (simp at *; omega)) (fun _h => (cnd (F := fun r => some (e_iisWord r)) (fun _h => rfl) (fun _h => rfl))))
theorem run_iisWord : ∀ d, pre_iisWord d = true → runP true Try.prog tt S16 QF16 (fun b => match b with | 0 => say_iisWord_0 | _ => fun _ => none) Try.f164 (argsMk P_iisWord d) = some (g_iisWord d) := fun d hp => runA_iisWord d.1 hp
theorem c_iisWord : PContract Try.prog 164 (sumOf P_iisWord pre_iisWord g_iisWord) := PContract.of_data true G16 (fn := Try.f164) (by kernel_rfl) (L := fun b => match b with | 0 => say_iisWord_0 | _ => fun _ => none) (by rw [show loopsIn 0 (bodyOf Try.f164) = [(0, body_iisWord_0)] by kernel_rfl]; intro p hp; simp only [List.mem_singleton] at hp; subst hp; exact lw_iisWord_0) P_iisWord pre_iisWord g_iisWord run_iisWord
noncomputable def S17 : Tab := Tab.add S16 164 (lift (sumOf P_iisWord pre_iisWord g_iisWord))
noncomputable def QF17 : FuncId → Bool := qadd QF16 164
theorem G17 : Good Try.prog tt S17 QF17 := G16.addQ c_iisWord ⟨Try.f164, by kernel_rfl, by kernel_rfl, by kernel_rfl⟩ (fun _ => rfl)

/-! 150 loop.example/g00244/impl.KeyOk -/
noncomputable abbrev P_iKeyOk : List PSh := [.t .str]
noncomputable def iKeyOk (a0 : ByteArray) : Bool := (cond (iinRange ((a0.size : Nat) : Int) (1 : Int) (12 : Int)) (iisWord a0) false)
noncomputable abbrev e_iKeyOk (r : Bool) : AV × List AObj := ((.t true .bool r), [])
noncomputable abbrev g_iKeyOk : pshsDen P_iKeyOk → AV × List AObj := fun d => e_iKeyOk (iKeyOk d.1)
noncomputable def q_iKeyOk (a0 : ByteArray) : Bool := okS a0
noncomputable abbrev pre_iKeyOk : pshsDen P_iKeyOk → Bool := fun d => q_iKeyOk d.1
theorem runA_iKeyOk (a0 : ByteArray) (hp : (okS a0) = true) : runP true Try.prog tt S17 QF17 (fun _ _ => none) Try.f150 (argsMk P_iKeyOk (a0, ())) = some (g_iKeyOk (a0, ())) := by
  refine Eq.trans (b := (cond (iinRange ((a0.size : Nat) : Int) (1 : Int) (12 : Int)) (cond (q_iisWord a0) (some (e_iKeyOk (iisWord a0))) none) (some (e_iKeyOk false)))) (by kernel_rfl) ?_
  exact (cnd (F := fun r => some (e_iKeyOk r)) (fun _h => (cndT (by first | rfl | decide | exact hp | (simp only [Bool.and_eq_true] at hp; simp only [hp]; done) | (simp [*]; done) | (simp [okL] at hp; simp [okL, MAXB]; omega) | (simp_all; done) | (simp at *; omega)) (fun _h => rfl))) (fun _h => rfl))
theorem run_iKeyOk : ∀ d, pre_iKeyOk d = true → runP true Try.prog tt S17 QF17 (fun _ _ => none) Try.f150 (argsMk P_iKeyOk d) = some (g_iKeyOk d) := fun d hp => runA_iKeyOk d.1 hp
theorem c_iKeyOk : PContract Try.prog 150 (sumOf P_iKeyOk pre_iKeyOk g_iKeyOk) := PContract.of_data true G17 (fn := Try.f150) (by kernel_rfl) (L := fun _ _ => none) (by rw [show loopsIn 0 (bodyOf Try.f150) = [] by kernel_rfl]; simp) P_iKeyOk pre_iKeyOk g_iKeyOk run_iKeyOk
noncomputable def S18 : Tab := Tab.add S17 150 (lift (sumOf P_iKeyOk pre_iKeyOk g_iKeyOk))
noncomputable def QF18 : FuncId → Bool := qadd QF17 150
theorem G18 : Good Try.prog tt S18 QF18 := G17.addQ c_iKeyOk ⟨Try.f150, by kernel_rfl, by kernel_rfl, by kernel_rfl⟩ (fun _ => rfl)

/-! 123 loop.example/g00244/impl.opOk -/
noncomputable abbrev P_iopOk : List PSh := [.agg [(.int .i64), .str, .str]]
noncomputable def iopOk (a0 : Int) (a1 : ByteArray) (a2 : ByteArray) : Bool := (cond (a0 == (1 : Int)) (cond (iKeyOk a1) (decide (((a2.size : Nat) : Int) ≤ (20 : Int))) false) (cond (a0 == (3 : Int)) (cond (iKeyOk a1) (decide (((a2.size : Nat) : Int) ≤ (20 : Int))) false) (cond (a0 == (2 : Int)) (cond (iKeyOk a1) (a2.toList == (⟨#[]⟩ : ByteArray).toList) false) false)))
noncomputable abbrev e_iopOk (r : Bool) : AV × List AObj := ((.t true .bool r), [])
noncomputable abbrev g_iopOk : pshsDen P_iopOk → AV × List AObj := fun d => e_iopOk (iopOk d.1.1 d.1.2.1 d.1.2.2.1)
noncomputable def q_iopOk (a0 : Int) (a1 : ByteArray) (a2 : ByteArray) : Bool := okS a1
noncomputable abbrev pre_iopOk : pshsDen P_iopOk → Bool := fun d => q_iopOk d.1.1 d.1.2.1 d.1.2.2.1
theorem runA_iopOk (a0 : Int) (a1 : ByteArray) (a2 : ByteArray) (hp : (okS a1) = true) : runP true Try.prog tt S18 QF18 (fun _ _ => none) Try.f123 (argsMk P_iopOk ((a0, (a1, (a2, ()))), ())) = some (g_iopOk ((a0, (a1, (a2, ()))), ())) := by
  refine Eq.trans (b := (cond (a0 == (1 : Int)) (cond (q_iKeyOk a1) (cond (iKeyOk a1) (some (e_iopOk (decide (((a2.size : Nat) : Int) ≤ (20 : Int))))) (some (e_iopOk false))) none) (cond (a0 == (3 : Int)) (cond (q_iKeyOk a1) (cond (iKeyOk a1) (some (e_iopOk (decide (((a2.size : Nat) : Int) ≤ (20 : Int))))) (some (e_iopOk false))) none) (cond (a0 == (2 : Int)) (cond (q_iKeyOk a1) (cond (iKeyOk a1) (some (e_iopOk (a2.toList == (⟨#[]⟩ : ByteArray).toList))) (some (e_iopOk false))) none) (some (e_iopOk false)))))) (by kernel_rfl) ?_
  exact (cnd (F := fun r => some (e_iopOk r)) (fun _h => (cndT (by first | rfl | decide | exact hp | (simp only [Bool.and_eq_true] at hp; simp only [hp]; done) | (simp [*]; done) | (simp [okL] at hp; simp [okL, MAXB]; omega) | (simp_all; done) | (simp at *; omega)) (fun _h => (cnd (F := fun r => some (e_iopOk r)) (fun _h => rfl) (fun _h => rfl))))) (fun _h => (cnd (F := fun r => some (e_iopOk r)) (fun _h => (cndT (by first | rfl | decide | exact hp | (simp only [Bool.and_eq_true] at hp; simp only [hp]; done) | (simp [*]; done) | (simp [okL] at hp; simp [okL, MAXB]; omega) | (simp_all; done) | (simp at *; omega)) (fun _h => (cnd (F := fun r => some (e_iopOk r)) (fun _h => rfl) (fun _h => rfl))))) (fun _h => (cnd (F := fun r => some (e_iopOk r)) (fun _h => (cndT (by first | rfl | decide | exact hp | (simp only [Bool.and_eq_true] at hp; simp only [hp]; done) | (simp [*]; done) | (simp [okL] at hp; simp [okL, MAXB]; omega) | (simp_all; done) | (simp at *; omega)) (fun _h => (cnd (F := fun r => some (e_iopOk r)) (fun _h => rfl) (fun _h => rfl))))) (fun _h => rfl))))))
theorem run_iopOk : ∀ d, pre_iopOk d = true → runP true Try.prog tt S18 QF18 (fun _ _ => none) Try.f123 (argsMk P_iopOk d) = some (g_iopOk d) := fun d hp => runA_iopOk d.1.1 d.1.2.1 d.1.2.2.1 hp
theorem c_iopOk : PContract Try.prog 123 (sumOf P_iopOk pre_iopOk g_iopOk) := PContract.of_data true G18 (fn := Try.f123) (by kernel_rfl) (L := fun _ _ => none) (by rw [show loopsIn 0 (bodyOf Try.f123) = [] by kernel_rfl]; simp) P_iopOk pre_iopOk g_iopOk run_iopOk
noncomputable def S19 : Tab := Tab.add S18 123 (lift (sumOf P_iopOk pre_iopOk g_iopOk))
noncomputable def QF19 : FuncId → Bool := qadd QF18 123
theorem G19 : Good Try.prog tt S19 QF19 := G18.addQ c_iopOk ⟨Try.f123, by kernel_rfl, by kernel_rfl, by kernel_rfl⟩ (fun _ => rfl)

/-! 60 loop.example/g00244/impl.OpsOk -/
noncomputable def iOpAt (l : List (Int × ByteArray × ByteArray)) (i : Nat) : Bool := iopOk (l.getD i dOp).1 (l.getD i dOp).2.1 (l.getD i dOp).2.2 && (decide (i = 0) || !(Op.bytesLess (l.getD i dOp).2.1.toList (l.getD (i - 1) dOp).2.1.toList || ((l.getD i dOp).2.1.toList == (l.getD (i - 1) dOp).2.1.toList)))
noncomputable abbrev P_iOpsOk : List PSh := [.t (.sl (.pair (.int .i64) (.pair .str .str)))]
noncomputable abbrev S_iOpsOk_0 : SS := ⟨[.t false (.sl (.pair (.int .i64) (.pair .str .str))), .junk, .junk, .junk, .junk, .t false (.sl (.pair (.int .i64) (.pair .str .str))), .t true (.int .i64), .t true (.int .i64), .junk, .junk, .junk, .junk, .junk, .junk, .junk, .junk, .junk, .junk, .junk, .junk, .junk, .junk, .junk, .junk, .junk, .junk, .junk, .junk, .junk, .junk, .junk, .junk, .junk, .junk], []⟩
noncomputable abbrev E_iOpsOk_0_0 : SS := ⟨[.junk, .junk, .t true .bool, .junk, .junk, .junk, .junk, .junk, .junk, .junk, .junk, .junk, .junk, .junk, .junk, .junk, .junk, .junk, .junk, .junk, .junk, .junk, .junk, .junk, .junk, .junk, .junk, .junk, .junk, .junk, .junk, .junk, .junk, .junk], []⟩
noncomputable abbrev E_iOpsOk_0_1 : SS := ⟨[.t false (.sl (.pair (.int .i64) (.pair .str .str))), .junk, .junk, .junk, .junk, .junk, .junk, .junk, .junk, .junk, .junk, .junk, .junk, .junk, .junk, .junk, .junk, .junk, .junk, .junk, .junk, .junk, .junk, .junk, .junk, .junk, .junk, .junk, .junk, .junk, .junk, .junk, .junk, .junk], []⟩
noncomputable def st_iOpsOk_0 (x0 : List (Int × ByteArray × ByteArray)) (x5 : List (Int × ByteArray × ByteArray)) (x6 : Int) (x7 : Int) : RT S_iOpsOk_0.den := (.br (decide (x7 < x6)) (.br (decide (0 ≤ x7 ∧ x7 < ((x5.length : Nat) : Int))) (.br (q_iopOk ((x5.getD x7.toNat ((0 : Int), ((⟨#[]⟩ : ByteArray), (⟨#[]⟩ : ByteArray)))).1) (((x5.getD x7.toNat ((0 : Int), ((⟨#[]⟩ : ByteArray), (⟨#[]⟩ : ByteArray)))).2).1) (((x5.getD x7.toNat ((0 : Int), ((⟨#[]⟩ : ByteArray), (⟨#[]⟩ : ByteArray)))).2).2)) (.br (!(iopOk ((x5.getD x7.toNat ((0 : Int), ((⟨#[]⟩ : ByteArray), (⟨#[]⟩ : ByteArray)))).1) (((x5.getD x7.toNat ((0 : Int), ((⟨#[]⟩ : ByteArray), (⟨#[]⟩ : ByteArray)))).2).1) (((x5.getD x7.toNat ((0 : Int), ((⟨#[]⟩ : ByteArray), (⟨#[]⟩ : ByteArray)))).2).2))) (.done .ret E_iOpsOk_0_0 (((), (), false, (), (), (), (), (), (), (), (), (), (), (), (), (), (), (), (), (), (), (), (), (), (), (), (), (), (), (), (), (), (), (), ()), ())) (.br (decide (x7 > (0 : Int))) (.br (decide (0 ≤ (IntKind.wrap .i64 (x7 - (1 : Int))) ∧ (IntKind.wrap .i64 (x7 - (1 : Int))) < ((x0.length : Nat) : Int))) (.br (Op.bytesLess (((x5.getD x7.toNat ((0 : Int), ((⟨#[]⟩ : ByteArray), (⟨#[]⟩ : ByteArray)))).2).1).toList (((x0.getD ((IntKind.wrap .i64 (x7 - (1 : Int))).toNat) ((0 : Int), ((⟨#[]⟩ : ByteArray), (⟨#[]⟩ : ByteArray)))).2).1).toList || ((((x5.getD x7.toNat ((0 : Int), ((⟨#[]⟩ : ByteArray), (⟨#[]⟩ : ByteArray)))).2).1).toList == (((x0.getD ((IntKind.wrap .i64 (x7 - (1 : Int))).toNat) ((0 : Int), ((⟨#[]⟩ : ByteArray), (⟨#[]⟩ : ByteArray)))).2).1).toList)) (.done .ret E_iOpsOk_0_0 (((), (), false, (), (), (), (), (), (), (), (), (), (), (), (), (), (), (), (), (), (), (), (), (), (), (), (), (), (), (), (), (), (), (), ()), ())) (.next ((x0, (), (), (), (), x5, x6, IntKind.wrap .i64 (x7 + (1 : Int)), (), (), (), (), (), (), (), (), (), (), (), (), (), (), (), (), (), (), (), (), (), (), (), (), (), (), ()), ()))) .fail) (.next ((x0, (), (), (), (), x5, x6, IntKind.wrap .i64 (x7 + (1 : Int)), (), (), (), (), (), (), (), (), (), (), (), (), (), (), (), (), (), (), (), (), (), (), (), (), (), (), ()), ())))) .fail) .fail) (.done (.exit 0) E_iOpsOk_0_1 ((x0, (), (), (), (), (), (), (), (), (), (), (), (), (), (), (), (), (), (), (), (), (), (), (), (), (), (), (), (), (), (), (), (), (), ()), ())))
noncomputable def T_iOpsOk_0 (x0 : List (Int × ByteArray × ByteArray)) (x5 : List (Int × ByteArray × ByteArray)) (x6 : Int) (x7 : Int) : CT := (.br (decide (0 ≤ x7) && (decide (x6 = ((x5.length : Nat) : Int)) && (decide (x5 = x0) && okOps x5))) (.br (allF (iOpAt x5) (x5.length - x7.toNat) x7.toNat) (.done (.exit 0) E_iOpsOk_0_1 ((x0, (), (), (), (), (), (), (), (), (), (), (), (), (), (), (), (), (), (), (), (), (), (), (), (), (), (), (), (), (), (), (), (), (), ()), ())) (.done .ret E_iOpsOk_0_0 (((), (), false, (), (), (), (), (), (), (), (), (), (), (), (), (), (), (), (), (), (), (), (), (), (), (), (), (), (), (), (), (), (), (), ()), ()))) .fail)
noncomputable abbrev sp_iOpsOk_0 : S_iOpsOk_0.den → RT S_iOpsOk_0.den := fun d => st_iOpsOk_0 d.1.1 d.1.2.2.2.2.2.1 d.1.2.2.2.2.2.2.1 d.1.2.2.2.2.2.2.2.1
noncomputable abbrev pk_iOpsOk_0 (x0 : List (Int × ByteArray × ByteArray)) (x5 : List (Int × ByteArray × ByteArray)) (x6 : Int) (x7 : Int) : S_iOpsOk_0.den := ((x0, (), (), (), (), x5, x6, x7, (), (), (), (), (), (), (), (), (), (), (), (), (), (), (), (), (), (), (), (), (), (), (), (), (), (), ()), ())
noncomputable def body_iOpsOk_0 : Code := ((loopsIn 0 (bodyOf Try.f60)).getD 0 (0, .skip)).2
theorem R_iOpsOk_0 (x0 : List (Int × ByteArray × ByteArray)) (x5 : List (Int × ByteArray × ByteArray)) (x6 : Int) (x7 : Int) : (T_iOpsOk_0 x0 x5 x6 x7).val (D := S_iOpsOk_0.den) = .fail ∨ Runs sp_iOpsOk_0 (pk_iOpsOk_0 x0 x5 x6 x7) (T_iOpsOk_0 x0 x5 x6 x7).val := by
  cases hc : (decide (0 ≤ x7) && (decide (x6 = ((x5.length : Nat) : Int)) && (decide (x5 = x0) && okOps x5))) with
  | false => left; simp only [T_iOpsOk_0, CT.val, hc, cond_false]
  | true =>
    right
    simp only [T_iOpsOk_0, CT.val, hc, cond_true]
    simp only [Bool.and_eq_true, decide_eq_true_eq] at hc
    obtain ⟨i, rfl⟩ := Int.eq_ofNat_of_zero_le hc.1
    obtain ⟨_, e6, e5, hc⟩ := hc
    subst e5; subst e6
    have hs := okOps_len hc
    simp only [Int.toNat_natCast]
    refine Runs.scan (fun j => pk_iOpsOk_0 x5 x5 ((x5.length : Nat) : Int) (j : Int)) (x5.length) (iOpAt x5) (fun i hi => ?_) (fun i hi => ?_) ⟨_, _, _, rfl, by simp⟩ ⟨_, _, _, rfl, by simp⟩ _ _ rfl
    · 
      have h0a : decide ((i : Int) < ((x5.length : Nat) : Int)) = true := decide_eq_true (by omega)
      have h0b : decide (0 ≤ (i : Int) ∧ (i : Int) < ((x5.length : Nat) : Int)) = true := decide_eq_true (by omega)
      simp only [sp_iOpsOk_0, st_iOpsOk_0, RT.val, h0a, h0b, cond_true, wrapS i (by omega), Int.toNat_natCast]
      have hq : q_iopOk (x5.getD i dOp).1 (x5.getD i dOp).2.1 (x5.getD i dOp).2.2 = true := (okOps_at hc i hi).1
      simp only [dOp] at hq
      simp only [hq, cond_true, iOpAt, dOp]
      cases iopOk (x5.getD i ((0 : Int), ((⟨#[]⟩ : ByteArray), (⟨#[]⟩ : ByteArray)))).1 (x5.getD i ((0 : Int), ((⟨#[]⟩ : ByteArray), (⟨#[]⟩ : ByteArray)))).2.1 (x5.getD i ((0 : Int), ((⟨#[]⟩ : ByteArray), (⟨#[]⟩ : ByteArray)))).2.2 with
      | false => rfl
      | true =>
        cases i with
        | zero => rfl
        | succ i =>
          have h3 : decide (((i + 1 : Nat) : Int) > 0) = true := decide_eq_true (by omega)
          have h4 : IntKind.wrap .i64 (((i + 1 : Nat) : Int) - 1) = (i : Int) := by have := wrap64 (n := ((i + 1 : Nat) : Int) - 1) (by omega) (by omega); omega
          have h5 : decide (0 ≤ (i : Int) ∧ (i : Int) < ((x5.length : Nat) : Int)) = true := decide_eq_true (by omega)
          have h6 : decide (i + 1 = 0) = false := by simp
          simp only [h3, h4, h5, h6, cond_true, Bool.true_and, Bool.false_or, Int.toNat_natCast, Nat.add_sub_cancel, Bool.not_true, cond_false]
          cases (Op.bytesLess (x5.getD (i + 1) ((0 : Int), ((⟨#[]⟩ : ByteArray), (⟨#[]⟩ : ByteArray)))).2.1.toList (x5.getD i ((0 : Int), ((⟨#[]⟩ : ByteArray), (⟨#[]⟩ : ByteArray)))).2.1.toList || ((x5.getD (i + 1) ((0 : Int), ((⟨#[]⟩ : ByteArray), (⟨#[]⟩ : ByteArray)))).2.1.toList == (x5.getD i ((0 : Int), ((⟨#[]⟩ : ByteArray), (⟨#[]⟩ : ByteArray)))).2.1.toList)) <;> rfl
    · have h1 : decide ((i : Int) < ((x5.length : Nat) : Int)) = false := decide_eq_false (by omega)
      simp only [sp_iOpsOk_0, st_iOpsOk_0, RT.val, h1, cond_false]
theorem rd_iOpsOk_0 : ∀ d, execC Try.prog tt S19 QF19 (fun _ _ => none) 0 body_iOpsOk_0 (S_iOpsOk_0.st d 0 []) (fun e s' => some (e, S_iOpsOk_0.cutE (kepts [2] [(0, [0])]) e s')) = (sp_iOpsOk_0 d).opt 0 [] := by
  intro d
  kernel_rfl
noncomputable abbrev say_iOpsOk_0 : St → Option Tree := S_iOpsOk_0.say 0 [] [] (fun d => T_iOpsOk_0 d.1.1 d.1.2.2.2.2.2.1 d.1.2.2.2.2.2.2.1 d.1.2.2.2.2.2.2.2.1)
theorem lw_iOpsOk_0 : LoopWp Try.prog say_iOpsOk_0 body_iOpsOk_0 := SS.wp G19 (fun _ _ => none) (by rw [show loopsIn 0 body_iOpsOk_0 = [] by kernel_rfl]; simp) S_iOpsOk_0 0 [] (kepts [2] [(0, [0])]) [] sp_iOpsOk_0 rd_iOpsOk_0 _ (fun d => R_iOpsOk_0 d.1.1 d.1.2.2.2.2.2.1 d.1.2.2.2.2.2.2.1 d.1.2.2.2.2.2.2.2.1)
noncomputable def iOpsOk (a0 : List (Int × ByteArray × ByteArray)) : Bool := (cond (allF (iOpAt a0) (a0.length - (0 : Int).toNat) (0 : Int).toNat) (iinRange ((a0.length : Nat) : Int) (1 : Int) (8 : Int)) false)
noncomputable abbrev e_iOpsOk (r : Bool) : AV × List AObj := ((.t true .bool r), [])
noncomputable abbrev g_iOpsOk : pshsDen P_iOpsOk → AV × List AObj := fun d => e_iOpsOk (iOpsOk d.1)
noncomputable def q_iOpsOk (a0 : List (Int × ByteArray × ByteArray)) : Bool := okOps a0
noncomputable abbrev pre_iOpsOk : pshsDen P_iOpsOk → Bool := fun d => q_iOpsOk d.1
theorem runA_iOpsOk (a0 : List (Int × ByteArray × ByteArray)) (hp : (okOps a0) = true) : runP true Try.prog tt S19 QF19 (fun b => match b with | 0 => say_iOpsOk_0 | _ => fun _ => none) Try.f60 (argsMk P_iOpsOk (a0, ())) = some (g_iOpsOk (a0, ())) := by
  refine Eq.trans (b := (cond (decide (0 ≤ (0 : Int)) && (decide (((a0.length : Nat) : Int) = ((a0.length : Nat) : Int)) && (decide (a0 = a0) && okOps a0))) (cond (allF (iOpAt a0) (a0.length - (0 : Int).toNat) (0 : Int).toNat) (some (e_iOpsOk (iinRange ((a0.length : Nat) : Int) (1 : Int) (8 : Int)))) (some (e_iOpsOk false))) none)) (by kernel_rfl) ?_
  exact (cndT (by first | rfl | decide | exact hp | (simp only [Bool.and_eq_true] at hp; simp only [hp]; done) | (simp [*]; done) | (simp [okL] at hp; simp [okL, MAXB]; omega) | (simp_all; done) | (simp at *; omega)) (fun _h => (cnd (F := fun r => some (e_iOpsOk r)) (fun _h => rfl) (fun _h => rfl))))
theorem run_iOpsOk : ∀ d, pre_iOpsOk d = true → runP true Try.prog tt S19 QF19 (fun b => match b with | 0 => say_iOpsOk_0 | _ => fun _ => none) Try.f60 (argsMk P_iOpsOk d) = some (g_iOpsOk d) := fun d hp => runA_iOpsOk d.1 hp
theorem c_iOpsOk : PContract Try.prog 60 (sumOf P_iOpsOk pre_iOpsOk g_iOpsOk) := PContract.of_data true G19 (fn := Try.f60) (by kernel_rfl) (L := fun b => match b with | 0 => say_iOpsOk_0 | _ => fun _ => none) (by rw [show loopsIn 0 (bodyOf Try.f60) = [(0, body_iOpsOk_0)] by kernel_rfl]; intro p hp; simp only [List.mem_singleton] at hp; subst hp; exact lw_iOpsOk_0) P_iOpsOk pre_iOpsOk g_iOpsOk run_iOpsOk
noncomputable def S20 : Tab := Tab.add S19 60 (lift (sumOf P_iOpsOk pre_iOpsOk g_iOpsOk))
noncomputable def QF20 : FuncId → Bool := qadd QF19 60
theorem G20 : Good Try.prog tt S20 QF20 := G19.addQ c_iOpsOk ⟨Try.f60, by kernel_rfl, by kernel_rfl, by kernel_rfl⟩ (fun _ => rfl)

/-! 99 loop.example/g00244/impl.putNum -/
noncomputable abbrev SM_iputNum_nil : SS := ⟨[.nil, .t true (.int .i64)], []⟩
noncomputable abbrev S_iputNum_nil_0 : SS := ⟨[.all 0 1, .t true (.int .i64), .junk, .junk, .junk, .junk, .junk, .junk, .junk, .junk, .junk, .junk, .junk, .junk, .junk, .junk, .junk, .junk, .junk, .junk, .junk, .junk, .junk, .junk], [.rows 5 true (.int .u8)]⟩
noncomputable abbrev E_iputNum_nil_0_0 : SS := ⟨[.all 0 1, .t true (.int .i64), .junk, .junk, .junk, .junk, .junk, .junk, .junk, .junk, .junk, .junk, .junk, .junk, .junk, .junk, .junk, .junk, .junk, .junk, .junk, .junk, .junk, .junk], [.rows 5 true (.int .u8)]⟩
noncomputable def st_iputNum_nil_0 (x1 : Int) (h0 : List Int) : RT S_iputNum_nil_0.den := (.br (decide (x1 > (127 : Int))) (.br (decide ((h0.length + [IntKind.wrap .u8 (ior .i64 (128 : Int) (iand .i64 x1 (127 : Int)))].length) * 1 ≤ MAXB)) (.next (((), Int.fdiv x1 (2 ^ (7)), (), (), (), (), (), (), (), (), (), (), (), (), (), (), (), (), (), (), (), (), (), (), ()), (h0 ++ [IntKind.wrap .u8 (ior .i64 (128 : Int) (iand .i64 x1 (127 : Int)))], ()))) .fail) (.done (.exit 0) E_iputNum_nil_0_0 (((), x1, (), (), (), (), (), (), (), (), (), (), (), (), (), (), (), (), (), (), (), (), (), (), ()), (h0, ()))))
noncomputable def T_iputNum_nil_0 (x1 : Int) (h0 : List Int) : CT := (.br (decide (0 ≤ x1 ∧ x1 ≤ 1000000000) && decide (h0.length ≤ 35184372088832)) (.done (.exit 0) E_iputNum_nil_0_0 (((), ((nX x1).2), (), (), (), (), (), (), (), (), (), (), (), (), (), (), (), (), (), (), (), (), (), (), ()), ((h0 ++ (nX x1).1), ()))) .fail)
noncomputable abbrev sp_iputNum_nil_0 : S_iputNum_nil_0.den → RT S_iputNum_nil_0.den := fun d => st_iputNum_nil_0 d.1.2.1 d.2.1
noncomputable abbrev pk_iputNum_nil_0 (x1 : Int) (h0 : List Int) : S_iputNum_nil_0.den := (((), x1, (), (), (), (), (), (), (), (), (), (), (), (), (), (), (), (), (), (), (), (), (), (), ()), (h0, ()))
noncomputable def body_iputNum_nil_0 : Code := ((loopsIn 0 (bodyOf Try.f99)).getD 0 (0, .skip)).2
theorem R_iputNum_nil_0 (x1 : Int) (h0 : List Int) : (T_iputNum_nil_0 x1 h0).val (D := S_iputNum_nil_0.den) = .fail ∨ Runs sp_iputNum_nil_0 (pk_iputNum_nil_0 x1 h0) (T_iputNum_nil_0 x1 h0).val := by
  cases hc : (decide (0 ≤ x1 ∧ x1 ≤ 1000000000) && decide (h0.length ≤ 35184372088832)) with
  | false => left; simp only [T_iputNum_nil_0, CT.val, hc, cond_false]
  | true =>
    right
    simp only [T_iputNum_nil_0, CT.val, hc, cond_true]
    simp only [Bool.and_eq_true, decide_eq_true_eq] at hc
    rw [nX_eq']
    have key : ∀ (k : Nat) (x1 : Int) (h0 : List Int), 0 ≤ x1 → x1 < 128 ^ (k + 1) → h0.length + k ≤ 70368744177664 → Runs sp_iputNum_nil_0 (pk_iputNum_nil_0 x1 h0) (((.done (.exit 0) E_iputNum_nil_0_0 (((), ((hiF gNum' k x1).2), (), (), (), (), (), (), (), (), (), (), (), (), (), (), (), (), (), (), (), (), (), (), ()), ((h0 ++ (hiF gNum' k x1).1), ()))) : CT).val (D := S_iputNum_nil_0.den)) := by
      intro k
      induction k with
      | zero =>
        intro x h h1 h2 h3
        have e1 : decide (x > 127) = false := decide_eq_false (by simp at h2; omega)
        refine .done (by simp) ?_
        simp only [sp_iputNum_nil_0, st_iputNum_nil_0, RT.val, e1, cond_false, hiF, List.append_nil]
      | succ k ih =>
        intro x h h1 h2 h3
        rw [Int.pow_succ] at h2
        by_cases hx : x > 127
        · have e1 : decide (x > 127) = true := decide_eq_true hx
          have e2 : decide ((h.length + [gNum' x].length) * 1 ≤ MAXB) = true := decide_eq_true (by simp [MAXB]; omega)
          simp only [gNum'] at e2
          have := ih (Int.fdiv x (2 ^ 7)) (h ++ [gNum' x]) (by rw [fdiv128]; omega) (by rw [fdiv128]; omega) (by simp; omega)
          refine .next (d' := pk_iputNum_nil_0 (Int.fdiv x (2 ^ 7)) (h ++ [gNum' x])) ?_ ?_
          · simp only [sp_iputNum_nil_0, st_iputNum_nil_0, RT.val, e1, e2, cond_true]; rfl
          · have e3 : hiF gNum' (k + 1) x = (gNum' x :: (hiF gNum' k (Int.fdiv x (2 ^ 7))).1, (hiF gNum' k (Int.fdiv x (2 ^ 7))).2) := by simp only [hiF, e1, cond_true]
            rw [e3]
            simpa [List.append_assoc] using this
        · have e1 : decide (x > 127) = false := decide_eq_false hx
          refine .done (by simp) ?_
          simp only [sp_iputNum_nil_0, st_iputNum_nil_0, RT.val, e1, cond_false, hiF, List.append_nil]
    exact key 4 x1 h0 hc.1.1 (by have := hc.1.2; simp; omega) (by have := hc.2; omega)
theorem rd_iputNum_nil_0 : ∀ d, execC Try.prog tt S20 QF20 (fun _ _ => none) 0 body_iputNum_nil_0 (S_iputNum_nil_0.st d 0 []) (fun e s' => some (e, S_iputNum_nil_0.cutE (kepts [] [(0, [0, 1])]) e s')) = (sp_iputNum_nil_0 d).opt 0 [] := by
  intro d
  kernel_rfl
noncomputable abbrev say_iputNum_nil_0 : St → Option Tree := S_iputNum_nil_0.say 0 [] [(0, 5, (.int .u8))] (fun d => T_iputNum_nil_0 d.1.2.1 d.2.1)
theorem lw_iputNum_nil_0 : LoopWp Try.prog say_iputNum_nil_0 body_iputNum_nil_0 := SS.wp G20 (fun _ _ => none) (by rw [show loopsIn 0 body_iputNum_nil_0 = [] by kernel_rfl]; simp) S_iputNum_nil_0 0 [] (kepts [] [(0, [0, 1])]) [(0, 5, (.int .u8))] sp_iputNum_nil_0 rd_iputNum_nil_0 _ (fun d => R_iputNum_nil_0 d.1.2.1 d.2.1)
noncomputable def iputNum_nil (x1 : Int) : List Int := ((([] : List Int) ++ (nX (if (if (1000000000 : Int) < x1 then (1000000000 : Int) else x1) > (0 : Int) then (if (1000000000 : Int) < x1 then (1000000000 : Int) else x1) else (0 : Int))).1) ++ [IntKind.wrap .u8 ((nX (if (if (1000000000 : Int) < x1 then (1000000000 : Int) else x1) > (0 : Int) then (if (1000000000 : Int) < x1 then (1000000000 : Int) else x1) else (0 : Int))).2)])
noncomputable abbrev e_iputNum_nil (r : List Int) : AV × List AObj × List Nat := ((.all 0 1), [(.rows 5 true (.int .u8) r)], [])
noncomputable abbrev g_iputNum_nil : SM_iputNum_nil.den → AV × List AObj × List Nat := fun d => e_iputNum_nil (iputNum_nil d.1.2.1)
noncomputable abbrev pre_iputNum_nil : SM_iputNum_nil.den → Bool := fun d => true
theorem runA_iputNum_nil (x1 : Int) : runM Try.prog tt S20 QF20 (fun b => match b with | 0 => say_iputNum_nil_0 | _ => fun _ => none) Try.f99 (shsMk SM_iputNum_nil.sl ((((), x1, ()), ()) : SM_iputNum_nil.den).1) (ohsMk SM_iputNum_nil.hp ((((), x1, ()), ()) : SM_iputNum_nil.den).2) = some (g_iputNum_nil (((), x1, ()), ())) := by
  refine Eq.trans (b := (cond (decide (0 ≤ (if (if (1000000000 : Int) < x1 then (1000000000 : Int) else x1) > (0 : Int) then (if (1000000000 : Int) < x1 then (1000000000 : Int) else x1) else (0 : Int)) ∧ (if (if (1000000000 : Int) < x1 then (1000000000 : Int) else x1) > (0 : Int) then (if (1000000000 : Int) < x1 then (1000000000 : Int) else x1) else (0 : Int)) ≤ 1000000000) && decide (([] : List Int).length ≤ 35184372088832)) (cond (decide (((([] : List Int) ++ (nX (if (if (1000000000 : Int) < x1 then (1000000000 : Int) else x1) > (0 : Int) then (if (1000000000 : Int) < x1 then (1000000000 : Int) else x1) else (0 : Int))).1).length + [IntKind.wrap .u8 ((nX (if (if (1000000000 : Int) < x1 then (1000000000 : Int) else x1) > (0 : Int) then (if (1000000000 : Int) < x1 then (1000000000 : Int) else x1) else (0 : Int))).2)].length) * 1 ≤ MAXB)) (some (e_iputNum_nil ((([] : List Int) ++ (nX (if (if (1000000000 : Int) < x1 then (1000000000 : Int) else x1) > (0 : Int) then (if (1000000000 : Int) < x1 then (1000000000 : Int) else x1) else (0 : Int))).1) ++ [IntKind.wrap .u8 ((nX (if (if (1000000000 : Int) < x1 then (1000000000 : Int) else x1) > (0 : Int) then (if (1000000000 : Int) < x1 then (1000000000 : Int) else x1) else (0 : Int))).2)]))) none) none)) (by kernel_rfl) ?_
  exact (cndT (by have h1 := nX_len (clampI x1); have h2 := clampI_range x1; simp only [clampI] at h1 h2; simp only [decide_eq_true_eq, Bool.and_eq_true] at *; (try simp only [MAXB, List.length_append, List.length_cons, List.length_nil]) <;> omega) (fun _h => (cndT (by have h1 := nX_len (clampI x1); have h2 := clampI_range x1; simp only [clampI] at h1 h2; simp only [decide_eq_true_eq, Bool.and_eq_true] at *; (try simp only [MAXB, List.length_append, List.length_cons, List.length_nil]) <;> omega) (fun _h => rfl))))
theorem run_iputNum_nil : ∀ d : SM_iputNum_nil.den, pre_iputNum_nil d = true → runM Try.prog tt S20 QF20 (fun b => match b with | 0 => say_iputNum_nil_0 | _ => fun _ => none) Try.f99 (shsMk SM_iputNum_nil.sl (d : SM_iputNum_nil.den).1) (ohsMk SM_iputNum_nil.hp (d : SM_iputNum_nil.den).2) = some (g_iputNum_nil d) := fun d hp => runA_iputNum_nil d.1.2.1
theorem c_iputNum_nil : MContract Try.prog 99 (win winIds (msum SM_iputNum_nil pre_iputNum_nil g_iputNum_nil)) := (MContract.of_data G20 (fn := Try.f99) (by kernel_rfl) (L := fun b => match b with | 0 => say_iputNum_nil_0 | _ => fun _ => none) (by rw [show loopsIn 0 (bodyOf Try.f99) = [(0, body_iputNum_nil_0)] by kernel_rfl]; intro p hp; simp only [List.mem_singleton] at hp; subst hp; exact lw_iputNum_nil_0) SM_iputNum_nil pre_iputNum_nil g_iputNum_nil run_iputNum_nil).win winIds
noncomputable def S21 : Tab := Tab.add S20 99 (win winIds (msum SM_iputNum_nil pre_iputNum_nil g_iputNum_nil))
noncomputable def QF21 : FuncId → Bool := QF20
theorem G21 : Good Try.prog tt S21 QF21 := G20.addM c_iputNum_nil (win_local _) ⟨Try.f99, by kernel_rfl, by kernel_rfl, by kernel_rfl⟩ (by kernel_rfl)
theorem iputNum_nil_eq (n : Int) : iputNum_nil n = numB (clampN n) := by
  rw [← clampI_eq]
  rfl
theorem iputNum_nil_len (n : Int) : (iputNum_nil n).length ≤ 5 := by rw [iputNum_nil_eq]; exact numB_len _

/-! 99 loop.example/g00244/impl.putNum -/
noncomputable abbrev SM_iputNum : SS := ⟨[.all 0 1, .t true (.int .i64)], [.rows 5 true (.int .u8)]⟩
noncomputable abbrev S_iputNum_0 : SS := ⟨[.all 0 1, .t true (.int .i64), .junk, .junk, .junk, .junk, .junk, .junk, .junk, .junk, .junk, .junk, .junk, .junk, .junk, .junk, .junk, .junk, .junk, .junk, .junk, .junk, .junk, .junk], [.rows 5 true (.int .u8)]⟩
noncomputable abbrev E_iputNum_0_0 : SS := ⟨[.all 0 1, .t true (.int .i64), .junk, .junk, .junk, .junk, .junk, .junk, .junk, .junk, .junk, .junk, .junk, .junk, .junk, .junk, .junk, .junk, .junk, .junk, .junk, .junk, .junk, .junk], [.rows 5 true (.int .u8)]⟩
noncomputable def st_iputNum_0 (x1 : Int) (h0 : List Int) : RT S_iputNum_0.den := (.br (decide (x1 > (127 : Int))) (.br (decide ((h0.length + [IntKind.wrap .u8 (ior .i64 (128 : Int) (iand .i64 x1 (127 : Int)))].length) * 1 ≤ MAXB)) (.next (((), Int.fdiv x1 (2 ^ (7)), (), (), (), (), (), (), (), (), (), (), (), (), (), (), (), (), (), (), (), (), (), (), ()), (h0 ++ [IntKind.wrap .u8 (ior .i64 (128 : Int) (iand .i64 x1 (127 : Int)))], ()))) .fail) (.done (.exit 0) E_iputNum_0_0 (((), x1, (), (), (), (), (), (), (), (), (), (), (), (), (), (), (), (), (), (), (), (), (), (), ()), (h0, ()))))
noncomputable def T_iputNum_0 (x1 : Int) (h0 : List Int) : CT := (.br (decide (0 ≤ x1 ∧ x1 ≤ 1000000000) && decide (h0.length ≤ 35184372088832)) (.done (.exit 0) E_iputNum_0_0 (((), ((nX x1).2), (), (), (), (), (), (), (), (), (), (), (), (), (), (), (), (), (), (), (), (), (), (), ()), ((h0 ++ (nX x1).1), ()))) .fail)
noncomputable abbrev sp_iputNum_0 : S_iputNum_0.den → RT S_iputNum_0.den := fun d => st_iputNum_0 d.1.2.1 d.2.1
noncomputable abbrev pk_iputNum_0 (x1 : Int) (h0 : List Int) : S_iputNum_0.den := (((), x1, (), (), (), (), (), (), (), (), (), (), (), (), (), (), (), (), (), (), (), (), (), (), ()), (h0, ()))
noncomputable def body_iputNum_0 : Code := ((loopsIn 0 (bodyOf Try.f99)).getD 0 (0, .skip)).2
theorem R_iputNum_0 (x1 : Int) (h0 : List Int) : (T_iputNum_0 x1 h0).val (D := S_iputNum_0.den) = .fail ∨ Runs sp_iputNum_0 (pk_iputNum_0 x1 h0) (T_iputNum_0 x1 h0).val := by
  cases hc : (decide (0 ≤ x1 ∧ x1 ≤ 1000000000) && decide (h0.length ≤ 35184372088832)) with
  | false => left; simp only [T_iputNum_0, CT.val, hc, cond_false]
  | true =>
    right
    simp only [T_iputNum_0, CT.val, hc, cond_true]
    simp only [Bool.and_eq_true, decide_eq_true_eq] at hc
    rw [nX_eq']
    have key : ∀ (k : Nat) (x1 : Int) (h0 : List Int), 0 ≤ x1 → x1 < 128 ^ (k + 1) → h0.length + k ≤ 70368744177664 → Runs sp_iputNum_0 (pk_iputNum_0 x1 h0) (((.done (.exit 0) E_iputNum_0_0 (((), ((hiF gNum' k x1).2), (), (), (), (), (), (), (), (), (), (), (), (), (), (), (), (), (), (), (), (), (), (), ()), ((h0 ++ (hiF gNum' k x1).1), ()))) : CT).val (D := S_iputNum_0.den)) := by
      intro k
      induction k with
      | zero =>
        intro x h h1 h2 h3
        have e1 : decide (x > 127) = false := decide_eq_false (by simp at h2; omega)
        refine .done (by simp) ?_
        simp only [sp_iputNum_0, st_iputNum_0, RT.val, e1, cond_false, hiF, List.append_nil]
      | succ k ih =>
        intro x h h1 h2 h3
        rw [Int.pow_succ] at h2
        by_cases hx : x > 127
        · have e1 : decide (x > 127) = true := decide_eq_true hx
          have e2 : decide ((h.length + [gNum' x].length) * 1 ≤ MAXB) = true := decide_eq_true (by simp [MAXB]; omega)
          simp only [gNum'] at e2
          have := ih (Int.fdiv x (2 ^ 7)) (h ++ [gNum' x]) (by rw [fdiv128]; omega) (by rw [fdiv128]; omega) (by simp; omega)
          refine .next (d' := pk_iputNum_0 (Int.fdiv x (2 ^ 7)) (h ++ [gNum' x])) ?_ ?_
          · simp only [sp_iputNum_0, st_iputNum_0, RT.val, e1, e2, cond_true]; rfl
          · have e3 : hiF gNum' (k + 1) x = (gNum' x :: (hiF gNum' k (Int.fdiv x (2 ^ 7))).1, (hiF gNum' k (Int.fdiv x (2 ^ 7))).2) := by simp only [hiF, e1, cond_true]
            rw [e3]
            simpa [List.append_assoc] using this
        · have e1 : decide (x > 127) = false := decide_eq_false hx
          refine .done (by simp) ?_
          simp only [sp_iputNum_0, st_iputNum_0, RT.val, e1, cond_false, hiF, List.append_nil]
    exact key 4 x1 h0 hc.1.1 (by have := hc.1.2; simp; omega) (by have := hc.2; omega)
theorem rd_iputNum_0 : ∀ d, execC Try.prog tt S21 QF21 (fun _ _ => none) 0 body_iputNum_0 (S_iputNum_0.st d 1 [0]) (fun e s' => some (e, S_iputNum_0.cutE (kepts [] [(0, [0, 1])]) e s')) = (sp_iputNum_0 d).opt 1 [0] := by
  intro d
  kernel_rfl
noncomputable abbrev say_iputNum_0 : St → Option Tree := S_iputNum_0.say 1 [0] [] (fun d => T_iputNum_0 d.1.2.1 d.2.1)
theorem lw_iputNum_0 : LoopWp Try.prog say_iputNum_0 body_iputNum_0 := SS.wp G21 (fun _ _ => none) (by rw [show loopsIn 0 body_iputNum_0 = [] by kernel_rfl]; simp) S_iputNum_0 1 [0] (kepts [] [(0, [0, 1])]) [] sp_iputNum_0 rd_iputNum_0 _ (fun d => R_iputNum_0 d.1.2.1 d.2.1)
noncomputable def iputNum (x1 : Int) (h0 : List Int) : List Int := ((h0 ++ (nX (if (if (1000000000 : Int) < x1 then (1000000000 : Int) else x1) > (0 : Int) then (if (1000000000 : Int) < x1 then (1000000000 : Int) else x1) else (0 : Int))).1) ++ [IntKind.wrap .u8 ((nX (if (if (1000000000 : Int) < x1 then (1000000000 : Int) else x1) > (0 : Int) then (if (1000000000 : Int) < x1 then (1000000000 : Int) else x1) else (0 : Int))).2)])
noncomputable abbrev e_iputNum (r : List Int) : AV × List AObj × List Nat := ((.all 0 1), [(.rows 5 true (.int .u8) r)], [0])
noncomputable abbrev g_iputNum : SM_iputNum.den → AV × List AObj × List Nat := fun d => e_iputNum (iputNum d.1.2.1 d.2.1)
noncomputable def q_iputNum (x1 : Int) (h0 : List Int) : Bool := decide (h0.length ≤ 17592186044416)
noncomputable abbrev pre_iputNum : SM_iputNum.den → Bool := fun d => q_iputNum d.1.2.1 d.2.1
theorem runA_iputNum (x1 : Int) (h0 : List Int) (hp : (decide (h0.length ≤ 17592186044416)) = true) : runM Try.prog tt S21 QF21 (fun b => match b with | 0 => say_iputNum_0 | _ => fun _ => none) Try.f99 (shsMk SM_iputNum.sl ((((), x1, ()), (h0, ())) : SM_iputNum.den).1) (ohsMk SM_iputNum.hp ((((), x1, ()), (h0, ())) : SM_iputNum.den).2) = some (g_iputNum (((), x1, ()), (h0, ()))) := by
  refine Eq.trans (b := (cond (decide (0 ≤ (if (if (1000000000 : Int) < x1 then (1000000000 : Int) else x1) > (0 : Int) then (if (1000000000 : Int) < x1 then (1000000000 : Int) else x1) else (0 : Int)) ∧ (if (if (1000000000 : Int) < x1 then (1000000000 : Int) else x1) > (0 : Int) then (if (1000000000 : Int) < x1 then (1000000000 : Int) else x1) else (0 : Int)) ≤ 1000000000) && decide (h0.length ≤ 35184372088832)) (cond (decide (((h0 ++ (nX (if (if (1000000000 : Int) < x1 then (1000000000 : Int) else x1) > (0 : Int) then (if (1000000000 : Int) < x1 then (1000000000 : Int) else x1) else (0 : Int))).1).length + [IntKind.wrap .u8 ((nX (if (if (1000000000 : Int) < x1 then (1000000000 : Int) else x1) > (0 : Int) then (if (1000000000 : Int) < x1 then (1000000000 : Int) else x1) else (0 : Int))).2)].length) * 1 ≤ MAXB)) (some (e_iputNum ((h0 ++ (nX (if (if (1000000000 : Int) < x1 then (1000000000 : Int) else x1) > (0 : Int) then (if (1000000000 : Int) < x1 then (1000000000 : Int) else x1) else (0 : Int))).1) ++ [IntKind.wrap .u8 ((nX (if (if (1000000000 : Int) < x1 then (1000000000 : Int) else x1) > (0 : Int) then (if (1000000000 : Int) < x1 then (1000000000 : Int) else x1) else (0 : Int))).2)]))) none) none)) (by kernel_rfl) ?_
  exact (cndT (by have h1 := nX_len (clampI x1); have h2 := clampI_range x1; simp only [clampI] at h1 h2; simp only [q_iputNum, decide_eq_true_eq, Bool.and_eq_true] at *; (try simp only [MAXB, List.length_append, List.length_cons, List.length_nil]) <;> omega) (fun _h => (cndT (by have h1 := nX_len (clampI x1); have h2 := clampI_range x1; simp only [clampI] at h1 h2; simp only [q_iputNum, decide_eq_true_eq, Bool.and_eq_true] at *; (try simp only [MAXB, List.length_append, List.length_cons, List.length_nil]) <;> omega) (fun _h => rfl))))
theorem run_iputNum : ∀ d : SM_iputNum.den, pre_iputNum d = true → runM Try.prog tt S21 QF21 (fun b => match b with | 0 => say_iputNum_0 | _ => fun _ => none) Try.f99 (shsMk SM_iputNum.sl (d : SM_iputNum.den).1) (ohsMk SM_iputNum.hp (d : SM_iputNum.den).2) = some (g_iputNum d) := fun d hp => runA_iputNum d.1.2.1 d.2.1 hp
theorem c_iputNum : MContract Try.prog 99 (win winIds (msum SM_iputNum pre_iputNum g_iputNum)) := (MContract.of_data G21 (fn := Try.f99) (by kernel_rfl) (L := fun b => match b with | 0 => say_iputNum_0 | _ => fun _ => none) (by rw [show loopsIn 0 (bodyOf Try.f99) = [(0, body_iputNum_0)] by kernel_rfl]; intro p hp; simp only [List.mem_singleton] at hp; subst hp; exact lw_iputNum_0) SM_iputNum pre_iputNum g_iputNum run_iputNum).win winIds
noncomputable def S22 : Tab := Tab.add S21 99 (orElseS (win winIds (msum SM_iputNum_nil pre_iputNum_nil g_iputNum_nil)) (win winIds (msum SM_iputNum pre_iputNum g_iputNum)))
noncomputable def QF22 : FuncId → Bool := QF21
theorem G22 : Good Try.prog tt S22 QF22 := G21.addM (MContract.orElse c_iputNum_nil c_iputNum) (orElse_local (win_local _) (win_local _)) ⟨Try.f99, by kernel_rfl, by kernel_rfl, by kernel_rfl⟩ (by kernel_rfl)
theorem iputNum_eq (n : Int) (b : List Int) : iputNum n b = b ++ numB (clampN n) := by
  rw [← clampI_eq, numB, ← List.append_assoc]
  rfl
theorem iputNum_len (b : List Int) (n : Int) : (iputNum n b).length ≤ b.length + 5 := by
  rw [iputNum_eq, List.length_append]
  have := numB_len (clampN n)
  omega

/-! 141 loop.example/g00244/impl.putText -/
noncomputable abbrev SM_iputText : SS := ⟨[.all 0 1, .t true .str], [.rows 5 true (.int .u8)]⟩
noncomputable def iputText (x1 : ByteArray) (h0 : List Int) : List Int := ((iputNum ((x1.size : Nat) : Int) h0) ++ strInts x1)
noncomputable abbrev e_iputText (r : List Int) : AV × List AObj × List Nat := ((.all 0 1), [(.rows 5 true (.int .u8) r)], [0])
noncomputable abbrev g_iputText : SM_iputText.den → AV × List AObj × List Nat := fun d => e_iputText (iputText d.1.2.1 d.2.1)
noncomputable def q_iputText (x1 : ByteArray) (h0 : List Int) : Bool := decide (h0.length ≤ 8796093022208) && okS x1
noncomputable abbrev pre_iputText : SM_iputText.den → Bool := fun d => q_iputText d.1.2.1 d.2.1
theorem runA_iputText (x1 : ByteArray) (h0 : List Int) (hp : (decide (h0.length ≤ 8796093022208) && okS x1) = true) : runM Try.prog tt S22 QF22 (fun _ _ => none) Try.f141 (shsMk SM_iputText.sl ((((), x1, ()), (h0, ())) : SM_iputText.den).1) (ohsMk SM_iputText.hp ((((), x1, ()), (h0, ())) : SM_iputText.den).2) = some (g_iputText (((), x1, ()), (h0, ()))) := by
  refine Eq.trans (b := (cond (q_iputNum ((x1.size : Nat) : Int) h0) (cond (decide ((iputNum ((x1.size : Nat) : Int) h0).length + x1.size ≤ MAXB)) (some (e_iputText ((iputNum ((x1.size : Nat) : Int) h0) ++ strInts x1))) none) none)) (by kernel_rfl) ?_
  exact (cndT (by have h1 := iputNum_len h0 ((x1.size : Nat) : Int); simp only [q_iputNum, okS, decide_eq_true_eq, decide_eq_false_iff_not, Bool.and_eq_true] at *; (try simp [MAXB]) <;> omega) (fun _h => (cndT (by have h1 := iputNum_len h0 ((x1.size : Nat) : Int); simp only [q_iputNum, okS, decide_eq_true_eq, decide_eq_false_iff_not, Bool.and_eq_true] at *; (try simp [MAXB]) <;> omega) (fun _h => rfl))))
theorem run_iputText : ∀ d : SM_iputText.den, pre_iputText d = true → runM Try.prog tt S22 QF22 (fun _ _ => none) Try.f141 (shsMk SM_iputText.sl (d : SM_iputText.den).1) (ohsMk SM_iputText.hp (d : SM_iputText.den).2) = some (g_iputText d) := fun d hp => runA_iputText d.1.2.1 d.2.1 hp
theorem c_iputText : MContract Try.prog 141 (win winIds (msum SM_iputText pre_iputText g_iputText)) := (MContract.of_data G22 (fn := Try.f141) (by kernel_rfl) (L := fun _ _ => none) (by rw [show loopsIn 0 (bodyOf Try.f141) = [] by kernel_rfl]; simp) SM_iputText pre_iputText g_iputText run_iputText).win winIds
noncomputable def S23 : Tab := Tab.add S22 141 (win winIds (msum SM_iputText pre_iputText g_iputText))
noncomputable def QF23 : FuncId → Bool := QF22
theorem G23 : Good Try.prog tt S23 QF23 := G22.addM c_iputText (win_local _) ⟨Try.f141, by kernel_rfl, by kernel_rfl, by kernel_rfl⟩ (by kernel_rfl)
theorem iputText_eq (b : List Int) (s : ByteArray) (h : okS s = true) : iputText s b = b ++ textB s := by
  simp only [okS, decide_eq_true_eq] at h
  simp only [iputText, iputNum_eq, textB, List.append_assoc]
  rw [clampN_of (by omega) (by omega)]
theorem iputText_len (b : List Int) (s : ByteArray) (h : okS s = true) : (iputText s b).length ≤ b.length + 5 + s.size := by
  rw [iputText_eq b s h, List.length_append]
  have := textB_len s
  omega

/-! 100 loop.example/g00244/impl.putOps -/
noncomputable def iOpPut (l : List (Int × ByteArray × ByteArray)) (i : Nat) (h : List Int) : List Int := iputText (l.getD i dOp).2.2 (iputText (l.getD i dOp).2.1 (iputNum (l.getD i dOp).1 h))
noncomputable abbrev SM_iputOps_nil : SS := ⟨[.nil, .t false (.sl (.pair (.int .i64) (.pair .str .str)))], []⟩
noncomputable abbrev S_iputOps_nil_0 : SS := ⟨[.all 0 1, .junk, .junk, .junk, .junk, .junk, .junk, .junk, .junk, .junk, .junk, .t false (.sl (.pair (.int .i64) (.pair .str .str))), .t true (.int .i64), .t true (.int .i64), .junk, .junk, .junk, .junk, .junk, .junk, .junk, .junk, .junk, .junk, .junk, .junk, .junk, .junk, .junk], [.rows 5 true (.int .u8)]⟩
noncomputable abbrev E_iputOps_nil_0_0 : SS := ⟨[.all 0 1, .junk, .junk, .junk, .junk, .junk, .junk, .junk, .junk, .junk, .junk, .junk, .junk, .junk, .junk, .junk, .junk, .junk, .junk, .junk, .junk, .junk, .junk, .junk, .junk, .junk, .junk, .junk, .junk], [.rows 5 true (.int .u8)]⟩
noncomputable def st_iputOps_nil_0 (x11 : List (Int × ByteArray × ByteArray)) (x12 : Int) (x13 : Int) (h0 : List Int) : RT S_iputOps_nil_0.den := (.br (decide (x13 < x12)) (.br (decide (0 ≤ x13 ∧ x13 < ((x11.length : Nat) : Int))) (.br (q_iputNum ((x11.getD x13.toNat ((0 : Int), ((⟨#[]⟩ : ByteArray), (⟨#[]⟩ : ByteArray)))).1) h0) (.br (q_iputText (((x11.getD x13.toNat ((0 : Int), ((⟨#[]⟩ : ByteArray), (⟨#[]⟩ : ByteArray)))).2).1) (iputNum ((x11.getD x13.toNat ((0 : Int), ((⟨#[]⟩ : ByteArray), (⟨#[]⟩ : ByteArray)))).1) h0)) (.br (q_iputText (((x11.getD x13.toNat ((0 : Int), ((⟨#[]⟩ : ByteArray), (⟨#[]⟩ : ByteArray)))).2).2) (iputText (((x11.getD x13.toNat ((0 : Int), ((⟨#[]⟩ : ByteArray), (⟨#[]⟩ : ByteArray)))).2).1) (iputNum ((x11.getD x13.toNat ((0 : Int), ((⟨#[]⟩ : ByteArray), (⟨#[]⟩ : ByteArray)))).1) h0))) (.next (((), (), (), (), (), (), (), (), (), (), (), x11, x12, IntKind.wrap .i64 (x13 + (1 : Int)), (), (), (), (), (), (), (), (), (), (), (), (), (), (), (), ()), ((iputText (((x11.getD x13.toNat ((0 : Int), ((⟨#[]⟩ : ByteArray), (⟨#[]⟩ : ByteArray)))).2).2) (iputText (((x11.getD x13.toNat ((0 : Int), ((⟨#[]⟩ : ByteArray), (⟨#[]⟩ : ByteArray)))).2).1) (iputNum ((x11.getD x13.toNat ((0 : Int), ((⟨#[]⟩ : ByteArray), (⟨#[]⟩ : ByteArray)))).1) h0))), ()))) .fail) .fail) .fail) .fail) (.done (.exit 0) E_iputOps_nil_0_0 (((), (), (), (), (), (), (), (), (), (), (), (), (), (), (), (), (), (), (), (), (), (), (), (), (), (), (), (), (), ()), (h0, ()))))
noncomputable def T_iputOps_nil_0 (x11 : List (Int × ByteArray × ByteArray)) (x12 : Int) (x13 : Int) (h0 : List Int) : CT := (.br (decide (0 ≤ x13) && (decide (x12 = ((x11.length : Nat) : Int)) && (decide (h0.length ≤ 4194304 * (x13.toNat + 1)) && okOps x11))) (.done (.exit 0) E_iputOps_nil_0_0 (((), (), (), (), (), (), (), (), (), (), (), (), (), (), (), (), (), (), (), (), (), (), (), (), (), (), (), (), (), ()), ((foldN (iOpPut x11) (x11.length - x13.toNat) x13.toNat h0), ()))) .fail)
noncomputable abbrev sp_iputOps_nil_0 : S_iputOps_nil_0.den → RT S_iputOps_nil_0.den := fun d => st_iputOps_nil_0 d.1.2.2.2.2.2.2.2.2.2.2.2.1 d.1.2.2.2.2.2.2.2.2.2.2.2.2.1 d.1.2.2.2.2.2.2.2.2.2.2.2.2.2.1 d.2.1
noncomputable abbrev pk_iputOps_nil_0 (x11 : List (Int × ByteArray × ByteArray)) (x12 : Int) (x13 : Int) (h0 : List Int) : S_iputOps_nil_0.den := (((), (), (), (), (), (), (), (), (), (), (), x11, x12, x13, (), (), (), (), (), (), (), (), (), (), (), (), (), (), (), ()), (h0, ()))
noncomputable def body_iputOps_nil_0 : Code := ((loopsIn 0 (bodyOf Try.f100)).getD 0 (0, .skip)).2
theorem R_iputOps_nil_0 (x11 : List (Int × ByteArray × ByteArray)) (x12 : Int) (x13 : Int) (h0 : List Int) : (T_iputOps_nil_0 x11 x12 x13 h0).val (D := S_iputOps_nil_0.den) = .fail ∨ Runs sp_iputOps_nil_0 (pk_iputOps_nil_0 x11 x12 x13 h0) (T_iputOps_nil_0 x11 x12 x13 h0).val := by
  cases hc : (decide (0 ≤ x13) && (decide (x12 = ((x11.length : Nat) : Int)) && (decide (h0.length ≤ 4194304 * (x13.toNat + 1)) && okOps x11))) with
  | false => left; simp only [T_iputOps_nil_0, CT.val, hc, cond_false]
  | true =>
    right
    simp only [T_iputOps_nil_0, CT.val, hc, cond_true]
    simp only [Bool.and_eq_true, decide_eq_true_eq] at hc
    obtain ⟨i, rfl⟩ := Int.eq_ofNat_of_zero_le hc.1
    obtain ⟨_, e1, hc⟩ := hc
    subst e1
    have hc := And.intro (show True from trivial) hc
    have hs := okOps_len hc.2.2
    have hb0 := hc.2.1
    simp only [Int.toNat_natCast] at hb0 ⊢
    refine Runs.foldN (step := sp_iputOps_nil_0) (fun j b => pk_iputOps_nil_0 x11 ((x11.length : Nat) : Int) (j : Int) b) (fun i b => b.length ≤ 4194304 * (i + 1)) (x11.length) (iOpPut x11)
      (fin := fun b => ((.done (.exit 0) E_iputOps_nil_0_0 (((), (), (), (), (), (), (), (), (), (), (), (), (), (), (), (), (), (), (), (), (), (), (), (), (), (), (), (), (), ()), (b, ()))) : CT).val) (fun i b hi hb => ?_) (fun i b hi hb => ?_) (x11.length - i) i h0 rfl hb0
    · obtain ⟨k1, k2⟩ := okOps_at hc.2.2 i hi
      have l1 := iputNum_len b (x11.getD i dOp).1
      have l2 := iputText_len (iputNum (x11.getD i dOp).1 b) (x11.getD i dOp).2.1 k1
      have l3 := iputText_len (iputText (x11.getD i dOp).2.1 (iputNum (x11.getD i dOp).1 b)) (x11.getD i dOp).2.2 k2
      have m1 := okS_le k1
      have m2 := okS_le k2
      have q1 : q_iputNum (x11.getD i dOp).1 b = true := by simp only [q_iputNum, decide_eq_true_eq]; omega
      have q2 : q_iputText (x11.getD i dOp).2.1 (iputNum (x11.getD i dOp).1 b) = true := by simp only [q_iputText, k1, Bool.and_true, decide_eq_true_eq]; omega
      have q3 : q_iputText (x11.getD i dOp).2.2 (iputText (x11.getD i dOp).2.1 (iputNum (x11.getD i dOp).1 b)) = true := by simp only [q_iputText, k2, Bool.and_true, decide_eq_true_eq]; omega
      refine ⟨by simp only [iOpPut]; omega, ?_⟩
      have h0a : decide ((i : Int) < ((x11.length : Nat) : Int)) = true := decide_eq_true (by omega)
      have h0b : decide (0 ≤ (i : Int) ∧ (i : Int) < ((x11.length : Nat) : Int)) = true := decide_eq_true (by omega)
      simp only [dOp] at q1 q2 q3
      simp only [sp_iputOps_nil_0, st_iputOps_nil_0, RT.val, h0a, h0b, cond_true, wrapS i (by omega), Int.toNat_natCast, q1, q2, q3]
      rfl
    · have h1 : decide ((i : Int) < ((x11.length : Nat) : Int)) = false := decide_eq_false (by omega)
      exact ⟨by simp only [sp_iputOps_nil_0, st_iputOps_nil_0, RT.val, h1, cond_false]; rfl, _, _, _, rfl, by simp⟩
theorem rd_iputOps_nil_0 : ∀ d, execC Try.prog tt S23 QF23 (fun _ _ => none) 0 body_iputOps_nil_0 (S_iputOps_nil_0.st d 0 []) (fun e s' => some (e, S_iputOps_nil_0.cutE (kepts [] [(0, [0])]) e s')) = (sp_iputOps_nil_0 d).opt 0 [] := by
  intro d
  kernel_rfl
noncomputable abbrev say_iputOps_nil_0 : St → Option Tree := S_iputOps_nil_0.say 0 [] [] (fun d => T_iputOps_nil_0 d.1.2.2.2.2.2.2.2.2.2.2.2.1 d.1.2.2.2.2.2.2.2.2.2.2.2.2.1 d.1.2.2.2.2.2.2.2.2.2.2.2.2.2.1 d.2.1)
theorem lw_iputOps_nil_0 : LoopWp Try.prog say_iputOps_nil_0 body_iputOps_nil_0 := SS.wp G23 (fun _ _ => none) (by rw [show loopsIn 0 body_iputOps_nil_0 = [] by kernel_rfl]; simp) S_iputOps_nil_0 0 [] (kepts [] [(0, [0])]) [] sp_iputOps_nil_0 rd_iputOps_nil_0 _ (fun d => R_iputOps_nil_0 d.1.2.2.2.2.2.2.2.2.2.2.2.1 d.1.2.2.2.2.2.2.2.2.2.2.2.2.1 d.1.2.2.2.2.2.2.2.2.2.2.2.2.2.1 d.2.1)
noncomputable def iputOps_nil (x1 : List (Int × ByteArray × ByteArray)) : List Int := (foldN (iOpPut x1) (x1.length - (0 : Int).toNat) (0 : Int).toNat (iputNum_nil ((x1.length : Nat) : Int)))
noncomputable abbrev e_iputOps_nil (r : List Int) : AV × List AObj × List Nat := ((.all 0 1), [(.rows 5 true (.int .u8) r)], [])
noncomputable abbrev g_iputOps_nil : SM_iputOps_nil.den → AV × List AObj × List Nat := fun d => e_iputOps_nil (iputOps_nil d.1.2.1)
noncomputable def q_iputOps_nil (x1 : List (Int × ByteArray × ByteArray)) : Bool := okOps x1
noncomputable abbrev pre_iputOps_nil : SM_iputOps_nil.den → Bool := fun d => q_iputOps_nil d.1.2.1
theorem runA_iputOps_nil (x1 : List (Int × ByteArray × ByteArray)) (hp : (okOps x1) = true) : runM Try.prog tt S23 QF23 (fun b => match b with | 0 => say_iputOps_nil_0 | _ => fun _ => none) Try.f100 (shsMk SM_iputOps_nil.sl ((((), x1, ()), ()) : SM_iputOps_nil.den).1) (ohsMk SM_iputOps_nil.hp ((((), x1, ()), ()) : SM_iputOps_nil.den).2) = some (g_iputOps_nil (((), x1, ()), ())) := by
  refine Eq.trans (b := (cond (decide (0 ≤ (0 : Int)) && (decide (((x1.length : Nat) : Int) = ((x1.length : Nat) : Int)) && (decide ((iputNum_nil ((x1.length : Nat) : Int)).length ≤ 4194304 * ((0 : Int).toNat + 1)) && okOps x1))) (some (e_iputOps_nil (foldN (iOpPut x1) (x1.length - (0 : Int).toNat) (0 : Int).toNat (iputNum_nil ((x1.length : Nat) : Int))))) none)) (by kernel_rfl) ?_
  exact (cndT (by have h1 := iputNum_nil_len ((x1.length : Nat) : Int); have hs := okOps_len hp; simp only [hp, Bool.and_true, Bool.true_and, Bool.and_eq_true, decide_eq_true_eq] <;> (try simp only [Int.toNat_zero, Int.le_refl, true_and, and_true, eq_self] at h1 ⊢) <;> omega) (fun _h => rfl))
theorem run_iputOps_nil : ∀ d : SM_iputOps_nil.den, pre_iputOps_nil d = true → runM Try.prog tt S23 QF23 (fun b => match b with | 0 => say_iputOps_nil_0 | _ => fun _ => none) Try.f100 (shsMk SM_iputOps_nil.sl (d : SM_iputOps_nil.den).1) (ohsMk SM_iputOps_nil.hp (d : SM_iputOps_nil.den).2) = some (g_iputOps_nil d) := fun d hp => runA_iputOps_nil d.1.2.1 hp
theorem c_iputOps_nil : MContract Try.prog 100 (win winIds (msum SM_iputOps_nil pre_iputOps_nil g_iputOps_nil)) := (MContract.of_data G23 (fn := Try.f100) (by kernel_rfl) (L := fun b => match b with | 0 => say_iputOps_nil_0 | _ => fun _ => none) (by rw [show loopsIn 0 (bodyOf Try.f100) = [(0, body_iputOps_nil_0)] by kernel_rfl]; intro p hp; simp only [List.mem_singleton] at hp; subst hp; exact lw_iputOps_nil_0) SM_iputOps_nil pre_iputOps_nil g_iputOps_nil run_iputOps_nil).win winIds
noncomputable def S24 : Tab := Tab.add S23 100 (win winIds (msum SM_iputOps_nil pre_iputOps_nil g_iputOps_nil))
noncomputable def QF24 : FuncId → Bool := QF23
theorem G24 : Good Try.prog tt S24 QF24 := G23.addM c_iputOps_nil (win_local _) ⟨Try.f100, by kernel_rfl, by kernel_rfl, by kernel_rfl⟩ (by kernel_rfl)

/-! 100 loop.example/g00244/impl.putOps -/
noncomputable abbrev SM_iputOps : SS := ⟨[.all 0 1, .t false (.sl (.pair (.int .i64) (.pair .str .str)))], [.rows 5 true (.int .u8)]⟩
noncomputable abbrev S_iputOps_0 : SS := ⟨[.all 0 1, .junk, .junk, .junk, .junk, .junk, .junk, .junk, .junk, .junk, .junk, .t false (.sl (.pair (.int .i64) (.pair .str .str))), .t true (.int .i64), .t true (.int .i64), .junk, .junk, .junk, .junk, .junk, .junk, .junk, .junk, .junk, .junk, .junk, .junk, .junk, .junk, .junk], [.rows 5 true (.int .u8)]⟩
noncomputable abbrev E_iputOps_0_0 : SS := ⟨[.all 0 1, .junk, .junk, .junk, .junk, .junk, .junk, .junk, .junk, .junk, .junk, .junk, .junk, .junk, .junk, .junk, .junk, .junk, .junk, .junk, .junk, .junk, .junk, .junk, .junk, .junk, .junk, .junk, .junk], [.rows 5 true (.int .u8)]⟩
noncomputable def st_iputOps_0 (x11 : List (Int × ByteArray × ByteArray)) (x12 : Int) (x13 : Int) (h0 : List Int) : RT S_iputOps_0.den := (.br (decide (x13 < x12)) (.br (decide (0 ≤ x13 ∧ x13 < ((x11.length : Nat) : Int))) (.br (q_iputNum ((x11.getD x13.toNat ((0 : Int), ((⟨#[]⟩ : ByteArray), (⟨#[]⟩ : ByteArray)))).1) h0) (.br (q_iputText (((x11.getD x13.toNat ((0 : Int), ((⟨#[]⟩ : ByteArray), (⟨#[]⟩ : ByteArray)))).2).1) (iputNum ((x11.getD x13.toNat ((0 : Int), ((⟨#[]⟩ : ByteArray), (⟨#[]⟩ : ByteArray)))).1) h0)) (.br (q_iputText (((x11.getD x13.toNat ((0 : Int), ((⟨#[]⟩ : ByteArray), (⟨#[]⟩ : ByteArray)))).2).2) (iputText (((x11.getD x13.toNat ((0 : Int), ((⟨#[]⟩ : ByteArray), (⟨#[]⟩ : ByteArray)))).2).1) (iputNum ((x11.getD x13.toNat ((0 : Int), ((⟨#[]⟩ : ByteArray), (⟨#[]⟩ : ByteArray)))).1) h0))) (.next (((), (), (), (), (), (), (), (), (), (), (), x11, x12, IntKind.wrap .i64 (x13 + (1 : Int)), (), (), (), (), (), (), (), (), (), (), (), (), (), (), (), ()), ((iputText (((x11.getD x13.toNat ((0 : Int), ((⟨#[]⟩ : ByteArray), (⟨#[]⟩ : ByteArray)))).2).2) (iputText (((x11.getD x13.toNat ((0 : Int), ((⟨#[]⟩ : ByteArray), (⟨#[]⟩ : ByteArray)))).2).1) (iputNum ((x11.getD x13.toNat ((0 : Int), ((⟨#[]⟩ : ByteArray), (⟨#[]⟩ : ByteArray)))).1) h0))), ()))) .fail) .fail) .fail) .fail) (.done (.exit 0) E_iputOps_0_0 (((), (), (), (), (), (), (), (), (), (), (), (), (), (), (), (), (), (), (), (), (), (), (), (), (), (), (), (), (), ()), (h0, ()))))
noncomputable def T_iputOps_0 (x11 : List (Int × ByteArray × ByteArray)) (x12 : Int) (x13 : Int) (h0 : List Int) : CT := (.br (decide (0 ≤ x13) && (decide (x12 = ((x11.length : Nat) : Int)) && (decide (h0.length ≤ 4194304 * (x13.toNat + 1)) && okOps x11))) (.done (.exit 0) E_iputOps_0_0 (((), (), (), (), (), (), (), (), (), (), (), (), (), (), (), (), (), (), (), (), (), (), (), (), (), (), (), (), (), ()), ((foldN (iOpPut x11) (x11.length - x13.toNat) x13.toNat h0), ()))) .fail)
noncomputable abbrev sp_iputOps_0 : S_iputOps_0.den → RT S_iputOps_0.den := fun d => st_iputOps_0 d.1.2.2.2.2.2.2.2.2.2.2.2.1 d.1.2.2.2.2.2.2.2.2.2.2.2.2.1 d.1.2.2.2.2.2.2.2.2.2.2.2.2.2.1 d.2.1
noncomputable abbrev pk_iputOps_0 (x11 : List (Int × ByteArray × ByteArray)) (x12 : Int) (x13 : Int) (h0 : List Int) : S_iputOps_0.den := (((), (), (), (), (), (), (), (), (), (), (), x11, x12, x13, (), (), (), (), (), (), (), (), (), (), (), (), (), (), (), ()), (h0, ()))
noncomputable def body_iputOps_0 : Code := ((loopsIn 0 (bodyOf Try.f100)).getD 0 (0, .skip)).2
theorem R_iputOps_0 (x11 : List (Int × ByteArray × ByteArray)) (x12 : Int) (x13 : Int) (h0 : List Int) : (T_iputOps_0 x11 x12 x13 h0).val (D := S_iputOps_0.den) = .fail ∨ Runs sp_iputOps_0 (pk_iputOps_0 x11 x12 x13 h0) (T_iputOps_0 x11 x12 x13 h0).val := by
  cases hc : (decide (0 ≤ x13) && (decide (x12 = ((x11.length : Nat) : Int)) && (decide (h0.length ≤ 4194304 * (x13.toNat + 1)) && okOps x11))) with
  | false => left; simp only [T_iputOps_0, CT.val, hc, cond_false]
  | true =>
    right
    simp only [T_iputOps_0, CT.val, hc, cond_true]
    simp only [Bool.and_eq_true, decide_eq_true_eq] at hc
    obtain ⟨i, rfl⟩ := Int.eq_ofNat_of_zero_le hc.1
    obtain ⟨_, e1, hc⟩ := hc
    subst e1
    have hc := And.intro (show True from trivial) hc
    have hs := okOps_len hc.2.2
    have hb0 := hc.2.1
    simp only [Int.toNat_natCast] at hb0 ⊢
    refine Runs.foldN (step := sp_iputOps_0) (fun j b => pk_iputOps_0 x11 ((x11.length : Nat) : Int) (j : Int) b) (fun i b => b.length ≤ 4194304 * (i + 1)) (x11.length) (iOpPut x11)
      (fin := fun b => ((.done (.exit 0) E_iputOps_0_0 (((), (), (), (), (), (), (), (), (), (), (), (), (), (), (), (), (), (), (), (), (), (), (), (), (), (), (), (), (), ()), (b, ()))) : CT).val) (fun i b hi hb => ?_) (fun i b hi hb => ?_) (x11.length - i) i h0 rfl hb0
    · obtain ⟨k1, k2⟩ := okOps_at hc.2.2 i hi
      have l1 := iputNum_len b (x11.getD i dOp).1
      have l2 := iputText_len (iputNum (x11.getD i dOp).1 b) (x11.getD i dOp).2.1 k1
      have l3 := iputText_len (iputText (x11.getD i dOp).2.1 (iputNum (x11.getD i dOp).1 b)) (x11.getD i dOp).2.2 k2
      have m1 := okS_le k1
      have m2 := okS_le k2
      have q1 : q_iputNum (x11.getD i dOp).1 b = true := by simp only [q_iputNum, decide_eq_true_eq]; omega
      have q2 : q_iputText (x11.getD i dOp).2.1 (iputNum (x11.getD i dOp).1 b) = true := by simp only [q_iputText, k1, Bool.and_true, decide_eq_true_eq]; omega
      have q3 : q_iputText (x11.getD i dOp).2.2 (iputText (x11.getD i dOp).2.1 (iputNum (x11.getD i dOp).1 b)) = true := by simp only [q_iputText, k2, Bool.and_true, decide_eq_true_eq]; omega
      refine ⟨by simp only [iOpPut]; omega, ?_⟩
      have h0a : decide ((i : Int) < ((x11.length : Nat) : Int)) = true := decide_eq_true (by omega)
      have h0b : decide (0 ≤ (i : Int) ∧ (i : Int) < ((x11.length : Nat) : Int)) = true := decide_eq_true (by omega)
      simp only [dOp] at q1 q2 q3
      simp only [sp_iputOps_0, st_iputOps_0, RT.val, h0a, h0b, cond_true, wrapS i (by omega), Int.toNat_natCast, q1, q2, q3]
      rfl
    · have h1 : decide ((i : Int) < ((x11.length : Nat) : Int)) = false := decide_eq_false (by omega)
      exact ⟨by simp only [sp_iputOps_0, st_iputOps_0, RT.val, h1, cond_false]; rfl, _, _, _, rfl, by simp⟩
theorem rd_iputOps_0 : ∀ d, execC Try.prog tt S24 QF24 (fun _ _ => none) 0 body_iputOps_0 (S_iputOps_0.st d 1 [0]) (fun e s' => some (e, S_iputOps_0.cutE (kepts [] [(0, [0])]) e s')) = (sp_iputOps_0 d).opt 1 [0] := by
  intro d
  kernel_rfl
noncomputable abbrev say_iputOps_0 : St → Option Tree := S_iputOps_0.say 1 [0] [] (fun d => T_iputOps_0 d.1.2.2.2.2.2.2.2.2.2.2.2.1 d.1.2.2.2.2.2.2.2.2.2.2.2.2.1 d.1.2.2.2.2.2.2.2.2.2.2.2.2.2.1 d.2.1)
theorem lw_iputOps_0 : LoopWp Try.prog say_iputOps_0 body_iputOps_0 := SS.wp G24 (fun _ _ => none) (by rw [show loopsIn 0 body_iputOps_0 = [] by kernel_rfl]; simp) S_iputOps_0 1 [0] (kepts [] [(0, [0])]) [] sp_iputOps_0 rd_iputOps_0 _ (fun d => R_iputOps_0 d.1.2.2.2.2.2.2.2.2.2.2.2.1 d.1.2.2.2.2.2.2.2.2.2.2.2.2.1 d.1.2.2.2.2.2.2.2.2.2.2.2.2.2.1 d.2.1)
noncomputable def iputOps (x1 : List (Int × ByteArray × ByteArray)) (h0 : List Int) : List Int := (foldN (iOpPut x1) (x1.length - (0 : Int).toNat) (0 : Int).toNat (iputNum ((x1.length : Nat) : Int) h0))
noncomputable abbrev e_iputOps (r : List Int) : AV × List AObj × List Nat := ((.all 0 1), [(.rows 5 true (.int .u8) r)], [0])
noncomputable abbrev g_iputOps : SM_iputOps.den → AV × List AObj × List Nat := fun d => e_iputOps (iputOps d.1.2.1 d.2.1)
noncomputable def q_iputOps (x1 : List (Int × ByteArray × ByteArray)) (h0 : List Int) : Bool := decide (h0.length ≤ 1000) && okOps x1
noncomputable abbrev pre_iputOps : SM_iputOps.den → Bool := fun d => q_iputOps d.1.2.1 d.2.1
theorem runA_iputOps (x1 : List (Int × ByteArray × ByteArray)) (h0 : List Int) (hp : (decide (h0.length ≤ 1000) && okOps x1) = true) : runM Try.prog tt S24 QF24 (fun b => match b with | 0 => say_iputOps_0 | _ => fun _ => none) Try.f100 (shsMk SM_iputOps.sl ((((), x1, ()), (h0, ())) : SM_iputOps.den).1) (ohsMk SM_iputOps.hp ((((), x1, ()), (h0, ())) : SM_iputOps.den).2) = some (g_iputOps (((), x1, ()), (h0, ()))) := by
  refine Eq.trans (b := (cond (q_iputNum ((x1.length : Nat) : Int) h0) (cond (decide (0 ≤ (0 : Int)) && (decide (((x1.length : Nat) : Int) = ((x1.length : Nat) : Int)) && (decide ((iputNum ((x1.length : Nat) : Int) h0).length ≤ 4194304 * ((0 : Int).toNat + 1)) && okOps x1))) (some (e_iputOps (foldN (iOpPut x1) (x1.length - (0 : Int).toNat) (0 : Int).toNat (iputNum ((x1.length : Nat) : Int) h0)))) none) none)) (by kernel_rfl) ?_
  exact (cndT (by obtain ⟨hp1, hp2⟩ := (Bool.and_eq_true _ _).mp hp; have h1 := iputNum_len h0 ((x1.length : Nat) : Int); have hs := okOps_len hp2; simp only [q_iputNum, hp2, Bool.and_true, Bool.true_and, Bool.and_eq_true, decide_eq_true_eq] at hp1 ⊢ <;> (try simp only [Int.toNat_zero, Int.le_refl, true_and, and_true, eq_self] at h1 ⊢) <;> omega) (fun _h => (cndT (by obtain ⟨hp1, hp2⟩ := (Bool.and_eq_true _ _).mp hp; have h1 := iputNum_len h0 ((x1.length : Nat) : Int); have hs := okOps_len hp2; simp only [q_iputNum, hp2, Bool.and_true, Bool.true_and, Bool.and_eq_true, decide_eq_true_eq] at hp1 ⊢ <;> (try simp only [Int.toNat_zero, Int.le_refl, true_and, and_true, eq_self] at h1 ⊢) <;> omega) (fun _h => rfl))))
theorem run_iputOps : ∀ d : SM_iputOps.den, pre_iputOps d = true → runM Try.prog tt S24 QF24 (fun b => match b with | 0 => say_iputOps_0 | _ => fun _ => none) Try.f100 (shsMk SM_iputOps.sl (d : SM_iputOps.den).1) (ohsMk SM_iputOps.hp (d : SM_iputOps.den).2) = some (g_iputOps d) := fun d hp => runA_iputOps d.1.2.1 d.2.1 hp
theorem c_iputOps : MContract Try.prog 100 (win winIds (msum SM_iputOps pre_iputOps g_iputOps)) := (MContract.of_data G24 (fn := Try.f100) (by kernel_rfl) (L := fun b => match b with | 0 => say_iputOps_0 | _ => fun _ => none) (by rw [show loopsIn 0 (bodyOf Try.f100) = [(0, body_iputOps_0)] by kernel_rfl]; intro p hp; simp only [List.mem_singleton] at hp; subst hp; exact lw_iputOps_0) SM_iputOps pre_iputOps g_iputOps run_iputOps).win winIds
noncomputable def S25 : Tab := Tab.add S24 100 (orElseS (win winIds (msum SM_iputOps_nil pre_iputOps_nil g_iputOps_nil)) (win winIds (msum SM_iputOps pre_iputOps g_iputOps)))
noncomputable def QF25 : FuncId → Bool := QF24
theorem G25 : Good Try.prog tt S25 QF25 := G24.addM (MContract.orElse c_iputOps_nil c_iputOps) (orElse_local (win_local _) (win_local _)) ⟨Try.f100, by kernel_rfl, by kernel_rfl, by kernel_rfl⟩ (by kernel_rfl)
theorem iputOps_eq (l : List (Int × ByteArray × ByteArray)) (h : List Int) (ho : okOps l = true) : iputOps l h = h ++ (numB (clampN (l.length : Int)) ++ (l.map opB).flatten) := by
  simp only [iputOps]
  have := foldN_app opB dOp l (iOpPut l) (fun i h hi => by
    obtain ⟨k1, k2⟩ := okOps_at ho i hi
    simp only [iOpPut, iputText_eq _ _ k1, iputText_eq _ _ k2, iputNum_eq, opB, List.append_assoc]) l.length 0 (iputNum (l.length : Int) h) (by omega)
  rw [iputNum_eq, List.drop_zero, List.append_assoc] at this
  rw [← this, iputNum_eq]
  rfl


/-! 54 loop.example/g00244/impl.PutOps -/
noncomputable abbrev P_iPutOps : List PSh := [.t (.sl (.pair (.int .i64) (.pair .str .str)))]
noncomputable def iPutOps (a0 : List (Int × ByteArray × ByteArray)) : List Int := (cond (!(iOpsOk a0)) [] (iputOps_nil a0))
noncomputable abbrev e_iPutOps (r : List Int) : AV × List AObj := ((.t true (.sl (.int .u8)) r), [])
noncomputable abbrev g_iPutOps : pshsDen P_iPutOps → AV × List AObj := fun d => e_iPutOps (iPutOps d.1)
noncomputable def q_iPutOps (a0 : List (Int × ByteArray × ByteArray)) : Bool := (q_iOpsOk a0) && (cond (!(iOpsOk a0)) true (q_iputOps_nil a0))
noncomputable abbrev pre_iPutOps : pshsDen P_iPutOps → Bool := fun d => q_iPutOps d.1
theorem runA_iPutOps (a0 : List (Int × ByteArray × ByteArray)) (hp : ((q_iOpsOk a0) && (cond (!(iOpsOk a0)) true (q_iputOps_nil a0))) = true) : runP true Try.prog tt S25 QF25 (fun _ _ => none) Try.f54 (argsMk P_iPutOps (a0, ())) = some (g_iPutOps (a0, ())) := by
  refine Eq.trans (b := (cond (q_iOpsOk a0) (cond (!(iOpsOk a0)) (some (e_iPutOps [])) (cond (q_iputOps_nil a0) (some (e_iPutOps (iputOps_nil a0))) none)) none)) (by kernel_rfl) ?_
  exact (cndT (andL hp) (fun _h => (fun hp => (cndQ (F := fun r => some (e_iPutOps r)) hp (fun hp => rfl) (fun hp => (cndT hp (fun _h => rfl))))) (andR hp)))
theorem run_iPutOps : ∀ d, pre_iPutOps d = true → runP true Try.prog tt S25 QF25 (fun _ _ => none) Try.f54 (argsMk P_iPutOps d) = some (g_iPutOps d) := fun d hp => runA_iPutOps d.1 hp
theorem c_iPutOps : PContract Try.prog 54 (sumOf P_iPutOps pre_iPutOps g_iPutOps) := PContract.of_data true G25 (fn := Try.f54) (by kernel_rfl) (L := fun _ _ => none) (by rw [show loopsIn 0 (bodyOf Try.f54) = [] by kernel_rfl]; simp) P_iPutOps pre_iPutOps g_iPutOps run_iPutOps
noncomputable def S26 : Tab := Tab.add S25 54 (lift (sumOf P_iPutOps pre_iPutOps g_iPutOps))
noncomputable def QF26 : FuncId → Bool := qadd QF25 54
theorem G26 : Good Try.prog tt S26 QF26 := G25.addQ c_iPutOps ⟨Try.f54, by kernel_rfl, by kernel_rfl, by kernel_rfl⟩ (fun _ => rfl)

/-! 83 loop.example/g00244/spec.l1In -/
noncomputable abbrev P_sl1In : List PSh := [.t (.int .i64), .t (.int .i64), .t (.int .i64)]
noncomputable def sl1In (a0 : Int) (a1 : Int) (a2 : Int) : Bool := (cond (decide (a0 ≥ a1)) (decide (a0 ≤ a2)) false)
noncomputable abbrev e_sl1In (r : Bool) : AV × List AObj := ((.t true .bool r), [])
noncomputable abbrev g_sl1In : pshsDen P_sl1In → AV × List AObj := fun d => e_sl1In (sl1In d.1 d.2.1 d.2.2.1)
noncomputable abbrev pre_sl1In : pshsDen P_sl1In → Bool := fun d => true
theorem runA_sl1In (a0 : Int) (a1 : Int) (a2 : Int) : runP true Try.prog tt S26 QF26 (fun _ _ => none) Try.f83 (argsMk P_sl1In (a0, (a1, (a2, ())))) = some (g_sl1In (a0, (a1, (a2, ())))) := by
  refine Eq.trans (b := (cond (decide (a0 ≥ a1)) (some (e_sl1In (decide (a0 ≤ a2)))) (some (e_sl1In false)))) (by kernel_rfl) ?_
  exact (cnd (F := fun r => some (e_sl1In r)) (fun _h => rfl) (fun _h => rfl))
theorem run_sl1In : ∀ d, pre_sl1In d = true → runP true Try.prog tt S26 QF26 (fun _ _ => none) Try.f83 (argsMk P_sl1In d) = some (g_sl1In d) := fun d hp => runA_sl1In d.1 d.2.1 d.2.2.1
theorem c_sl1In : PContract Try.prog 83 (sumOf P_sl1In pre_sl1In g_sl1In) := PContract.of_data true G26 (fn := Try.f83) (by kernel_rfl) (L := fun _ _ => none) (by rw [show loopsIn 0 (bodyOf Try.f83) = [] by kernel_rfl]; simp) P_sl1In pre_sl1In g_sl1In run_sl1In
noncomputable def S27 : Tab := Tab.add S26 83 (lift (sumOf P_sl1In pre_sl1In g_sl1In))
noncomputable def QF27 : FuncId → Bool := qadd QF26 83
theorem G27 : Good Try.prog tt S27 QF27 := G26.addQ c_sl1In ⟨Try.f83, by kernel_rfl, by kernel_rfl, by kernel_rfl⟩ (fun _ => rfl)

/-! 149 loop.example/g00244/spec.KeyOk -/
noncomputable def sKeyAt (s : ByteArray) (i : Nat) : Bool := sl1In (IntKind.wrap .i64 (bt s (i : Int))) 97 122 || sl1In (IntKind.wrap .i64 (bt s (i : Int))) 48 57
noncomputable abbrev P_sKeyOk : List PSh := [.t .str]
noncomputable abbrev S_sKeyOk_0 : SS := ⟨[.t true .str, .junk, .junk, .t true (.int .i64), .junk, .junk, .junk, .junk, .junk, .junk, .junk, .junk, .junk, .junk, .junk, .junk, .junk, .junk, .junk, .junk, .junk, .junk, .junk, .junk, .junk, .junk, .junk], []⟩
noncomputable abbrev E_sKeyOk_0_0 : SS := ⟨[.junk, .junk, .t true .bool, .junk, .junk, .junk, .junk, .junk, .junk, .junk, .junk, .junk, .junk, .junk, .junk, .junk, .junk, .junk, .junk, .junk, .junk, .junk, .junk, .junk, .junk, .junk, .junk], []⟩
noncomputable abbrev E_sKeyOk_0_1 : SS := ⟨[.t true .str, .junk, .junk, .junk, .junk, .junk, .junk, .junk, .junk, .junk, .junk, .junk, .junk, .junk, .junk, .junk, .junk, .junk, .junk, .junk, .junk, .junk, .junk, .junk, .junk, .junk, .junk], []⟩
noncomputable def st_sKeyOk_0 (x0 : ByteArray) (x3 : Int) : RT S_sKeyOk_0.den := (.br (decide (x3 < ((x0.size : Nat) : Int))) (.br (decide (0 ≤ x3 ∧ x3 < ((x0.size : Nat) : Int))) (.br (!(sl1In (IntKind.wrap .i64 (bt x0 x3)) (97 : Int) (122 : Int))) (.br (decide (0 ≤ x3 ∧ x3 < ((x0.size : Nat) : Int))) (.br (!(sl1In (IntKind.wrap .i64 (bt x0 x3)) (48 : Int) (57 : Int))) (.done .ret E_sKeyOk_0_0 (((), (), false, (), (), (), (), (), (), (), (), (), (), (), (), (), (), (), (), (), (), (), (), (), (), (), (), ()), ())) (.next ((x0, (), (), IntKind.wrap .i64 (x3 + (1 : Int)), (), (), (), (), (), (), (), (), (), (), (), (), (), (), (), (), (), (), (), (), (), (), (), ()), ()))) .fail) (.next ((x0, (), (), IntKind.wrap .i64 (x3 + (1 : Int)), (), (), (), (), (), (), (), (), (), (), (), (), (), (), (), (), (), (), (), (), (), (), (), ()), ()))) .fail) (.done (.exit 0) E_sKeyOk_0_1 ((x0, (), (), (), (), (), (), (), (), (), (), (), (), (), (), (), (), (), (), (), (), (), (), (), (), (), (), ()), ())))
noncomputable def T_sKeyOk_0 (x0 : ByteArray) (x3 : Int) : CT := (.br (decide (0 ≤ x3) && okS x0) (.br (allF (sKeyAt x0) (x0.size - x3.toNat) x3.toNat) (.done (.exit 0) E_sKeyOk_0_1 ((x0, (), (), (), (), (), (), (), (), (), (), (), (), (), (), (), (), (), (), (), (), (), (), (), (), (), (), ()), ())) (.done .ret E_sKeyOk_0_0 (((), (), false, (), (), (), (), (), (), (), (), (), (), (), (), (), (), (), (), (), (), (), (), (), (), (), (), ()), ()))) .fail)
noncomputable abbrev sp_sKeyOk_0 : S_sKeyOk_0.den → RT S_sKeyOk_0.den := fun d => st_sKeyOk_0 d.1.1 d.1.2.2.2.1
noncomputable abbrev pk_sKeyOk_0 (x0 : ByteArray) (x3 : Int) : S_sKeyOk_0.den := ((x0, (), (), x3, (), (), (), (), (), (), (), (), (), (), (), (), (), (), (), (), (), (), (), (), (), (), (), ()), ())
noncomputable def body_sKeyOk_0 : Code := ((loopsIn 0 (bodyOf Try.f149)).getD 0 (0, .skip)).2
theorem R_sKeyOk_0 (x0 : ByteArray) (x3 : Int) : (T_sKeyOk_0 x0 x3).val (D := S_sKeyOk_0.den) = .fail ∨ Runs sp_sKeyOk_0 (pk_sKeyOk_0 x0 x3) (T_sKeyOk_0 x0 x3).val := by
  cases hc : (decide (0 ≤ x3) && okS x0) with
  | false => left; simp only [T_sKeyOk_0, CT.val, hc, cond_false]
  | true =>
    right
    simp only [T_sKeyOk_0, CT.val, hc, cond_true]
    simp only [Bool.and_eq_true, decide_eq_true_eq] at hc
    obtain ⟨i, rfl⟩ := Int.eq_ofNat_of_zero_le hc.1
    have hs := okS_le hc.2
    simp only [Int.toNat_natCast]
    refine Runs.scan (fun j => pk_sKeyOk_0 x0 (j : Int)) (x0.size) (sKeyAt x0) (fun i hi => ?_) (fun i hi => ?_) ⟨_, _, _, rfl, by simp⟩ ⟨_, _, _, rfl, by simp⟩ _ _ rfl
    · 
      have h0a : decide ((i : Int) < ((x0.size : Nat) : Int)) = true := decide_eq_true (by omega)
      have h0b : decide (0 ≤ (i : Int) ∧ (i : Int) < ((x0.size : Nat) : Int)) = true := decide_eq_true (by omega)
      simp only [sp_sKeyOk_0, st_sKeyOk_0, RT.val, h0a, h0b, cond_true, wrapS i (by omega), Int.toNat_natCast]
      simp only [sKeyAt]
      cases sl1In (IntKind.wrap .i64 (bt x0 (i : Int))) 97 122 <;> cases sl1In (IntKind.wrap .i64 (bt x0 (i : Int))) 48 57 <;> rfl
    · have h1 : decide ((i : Int) < ((x0.size : Nat) : Int)) = false := decide_eq_false (by omega)
      simp only [sp_sKeyOk_0, st_sKeyOk_0, RT.val, h1, cond_false]
theorem rd_sKeyOk_0 : ∀ d, execC Try.prog tt S27 QF27 (fun _ _ => none) 0 body_sKeyOk_0 (S_sKeyOk_0.st d 0 []) (fun e s' => some (e, S_sKeyOk_0.cutE (kepts [2] [(0, [0])]) e s')) = (sp_sKeyOk_0 d).opt 0 [] := by
  intro d
  kernel_rfl
noncomputable abbrev say_sKeyOk_0 : St → Option Tree := S_sKeyOk_0.say 0 [] [] (fun d => T_sKeyOk_0 d.1.1 d.1.2.2.2.1)
theorem lw_sKeyOk_0 : LoopWp Try.prog say_sKeyOk_0 body_sKeyOk_0 := SS.wp G27 (fun _ _ => none) (by rw [show loopsIn 0 body_sKeyOk_0 = [] by kernel_rfl]; simp) S_sKeyOk_0 0 [] (kepts [2] [(0, [0])]) [] sp_sKeyOk_0 rd_sKeyOk_0 _ (fun d => R_sKeyOk_0 d.1.1 d.1.2.2.2.1)
noncomputable def sKeyOk (a0 : ByteArray) : Bool := (cond (allF (sKeyAt a0) (a0.size - (0 : Int).toNat) (0 : Int).toNat) (sl1In ((a0.size : Nat) : Int) (1 : Int) (12 : Int)) false)
noncomputable abbrev e_sKeyOk (r : Bool) : AV × List AObj := ((.t true .bool r), [])
noncomputable abbrev g_sKeyOk : pshsDen P_sKeyOk → AV × List AObj := fun d => e_sKeyOk (sKeyOk d.1)
noncomputable def q_sKeyOk (a0 : ByteArray) : Bool := okS a0
noncomputable abbrev pre_sKeyOk : pshsDen P_sKeyOk → Bool := fun d => q_sKeyOk d.1
theorem runA_sKeyOk (a0 : ByteArray) (hp : (okS a0) = true) : runP true Try.prog tt S27 QF27 (fun b => match b with | 0 => say_sKeyOk_0 | _ => fun _ => none) Try.f149 (argsMk P_sKeyOk (a0, ())) = some (g_sKeyOk (a0, ())) := by
  refine Eq.trans (b := (cond (decide (0 ≤ (0 : Int)) && okS a0) (cond (allF (sKeyAt a0) (a0.size - (0 : Int).toNat) (0 : Int).toNat) (some (e_sKeyOk (sl1In ((a0.size : Nat) : Int) (1 : Int) (12 : Int)))) (some (e_sKeyOk false))) none)) (by kernel_rfl) ?_
  exact (cndT (by first | rfl | decide | exact hp | (simp only [Bool.and_eq_true] at hp; simp only [hp]; done) | (simp [*]; done) | (simp [okL] at hp; simp [okL, MAXB]; omega) | (simp_all; done) | (simp at *; omega)) (fun _h => (cnd (F := fun r => some (e_sKeyOk r)) (fun _h => rfl) (fun _h => rfl))))
theorem run_sKeyOk : ∀ d, pre_sKeyOk d = true → runP true Try.prog tt S27 QF27 (fun b => match b with | 0 => say_sKeyOk_0 | _ => fun _ => none) Try.f149 (argsMk P_sKeyOk d) = some (g_sKeyOk d) := fun d hp => runA_sKeyOk d.1 hp
theorem c_sKeyOk : PContract Try.prog 149 (sumOf P_sKeyOk pre_sKeyOk g_sKeyOk) := PContract.of_data true G27 (fn := Try.f149) (by kernel_rfl) (L := fun b => match b with | 0 => say_sKeyOk_0 | _ => fun _ => none) (by rw [show loopsIn 0 (bodyOf Try.f149) = [(0, body_sKeyOk_0)] by kernel_rfl]; intro p hp; simp only [List.mem_singleton] at hp; subst hp; exact lw_sKeyOk_0) P_sKeyOk pre_sKeyOk g_sKeyOk run_sKeyOk
noncomputable def S28 : Tab := Tab.add S27 149 (lift (sumOf P_sKeyOk pre_sKeyOk g_sKeyOk))
noncomputable def QF28 : FuncId → Bool := qadd QF27 149
theorem G28 : Good Try.prog tt S28 QF28 := G27.addQ c_sKeyOk ⟨Try.f149, by kernel_rfl, by kernel_rfl, by kernel_rfl⟩ (fun _ => rfl)

/-! 122 loop.example/g00244/spec.l7Op -/
noncomputable abbrev P_sl7Op : List PSh := [.agg [(.int .i64), .str, .str]]
noncomputable def sl7Op (a0 : Int) (a1 : ByteArray) (a2 : ByteArray) : Bool := (cond (!(sl1In a0 (1 : Int) (3 : Int))) false (cond (a0 == (2 : Int)) (cond (!(a2.toList == (⟨#[]⟩ : ByteArray).toList)) false (cond (sKeyOk a1) (decide (((a2.size : Nat) : Int) ≤ (20 : Int))) false)) (cond (sKeyOk a1) (decide (((a2.size : Nat) : Int) ≤ (20 : Int))) false)))
noncomputable abbrev e_sl7Op (r : Bool) : AV × List AObj := ((.t true .bool r), [])
noncomputable abbrev g_sl7Op : pshsDen P_sl7Op → AV × List AObj := fun d => e_sl7Op (sl7Op d.1.1 d.1.2.1 d.1.2.2.1)
noncomputable def q_sl7Op (a0 : Int) (a1 : ByteArray) (a2 : ByteArray) : Bool := okS a1
noncomputable abbrev pre_sl7Op : pshsDen P_sl7Op → Bool := fun d => q_sl7Op d.1.1 d.1.2.1 d.1.2.2.1
theorem runA_sl7Op (a0 : Int) (a1 : ByteArray) (a2 : ByteArray) (hp : (okS a1) = true) : runP true Try.prog tt S28 QF28 (fun _ _ => none) Try.f122 (argsMk P_sl7Op ((a0, (a1, (a2, ()))), ())) = some (g_sl7Op ((a0, (a1, (a2, ()))), ())) := by
  refine Eq.trans (b := (cond (!(sl1In a0 (1 : Int) (3 : Int))) (some (e_sl7Op false)) (cond (a0 == (2 : Int)) (cond (!(a2.toList == (⟨#[]⟩ : ByteArray).toList)) (some (e_sl7Op false)) (cond (q_sKeyOk a1) (cond (sKeyOk a1) (some (e_sl7Op (decide (((a2.size : Nat) : Int) ≤ (20 : Int))))) (some (e_sl7Op false))) none)) (cond (q_sKeyOk a1) (cond (sKeyOk a1) (some (e_sl7Op (decide (((a2.size : Nat) : Int) ≤ (20 : Int))))) (some (e_sl7Op false))) none)))) (by kernel_rfl) ?_
  exact (cnd (F := fun r => some (e_sl7Op r)) (fun _h => rfl) (fun _h => (cnd (F := fun r => some (e_sl7Op r)) (fun _h => (cnd (F := fun r => some (e_sl7Op r)) (fun _h => rfl) (fun _h => (cndT (by first | rfl | decide | exact hp | (simp only [Bool.and_eq_true] at hp; simp only [hp]; done) | (simp [*]; done) | (simp [okL] at hp; simp [okL, MAXB]; omega) | (simp_all; done) | (simp at *; omega)) (fun _h => (cnd (F := fun r => some (e_sl7Op r)) (fun _h => rfl) (fun _h => rfl))))))) (fun _h => (cndT (by first | rfl | decide | exact hp | (simp only [Bool.and_eq_true] at hp; simp only [hp]; done) | (simp [*]; done) | (simp [okL] at hp; simp [okL, MAXB]; omega) | (simp_all; done) | (simp at *; omega)) (fun _h => (cnd (F := fun r => some (e_sl7Op r)) (fun _h => rfl) (fun _h => rfl))))))))
theorem run_sl7Op : ∀ d, pre_sl7Op d = true → runP true Try.prog tt S28 QF28 (fun _ _ => none) Try.f122 (argsMk P_sl7Op d) = some (g_sl7Op d) := fun d hp => runA_sl7Op d.1.1 d.1.2.1 d.1.2.2.1 hp
theorem c_sl7Op : PContract Try.prog 122 (sumOf P_sl7Op pre_sl7Op g_sl7Op) := PContract.of_data true G28 (fn := Try.f122) (by kernel_rfl) (L := fun _ _ => none) (by rw [show loopsIn 0 (bodyOf Try.f122) = [] by kernel_rfl]; simp) P_sl7Op pre_sl7Op g_sl7Op run_sl7Op
noncomputable def S29 : Tab := Tab.add S28 122 (lift (sumOf P_sl7Op pre_sl7Op g_sl7Op))
noncomputable def QF29 : FuncId → Bool := qadd QF28 122
theorem G29 : Good Try.prog tt S29 QF29 := G28.addQ c_sl7Op ⟨Try.f122, by kernel_rfl, by kernel_rfl, by kernel_rfl⟩ (fun _ => rfl)

/-! 59 loop.example/g00244/spec.OpsOk -/
noncomputable def sOpAt (l : List (Int × ByteArray × ByteArray)) (i : Nat) : Bool := sl7Op (l.getD i dOp).1 (l.getD i dOp).2.1 (l.getD i dOp).2.2 && (decide (i = 0) || Op.bytesLess (l.getD (i - 1) dOp).2.1.toList (l.getD i dOp).2.1.toList)
noncomputable abbrev P_sOpsOk : List PSh := [.t (.sl (.pair (.int .i64) (.pair .str .str)))]
noncomputable abbrev S_sOpsOk_0 : SS := ⟨[.t false (.sl (.pair (.int .i64) (.pair .str .str))), .junk, .junk, .t true (.int .i64), .junk, .junk, .junk, .junk, .junk, .junk, .junk, .junk, .junk, .junk, .junk, .junk, .junk, .junk, .junk, .junk, .junk, .junk, .junk, .junk, .junk, .junk, .junk, .junk, .junk, .junk, .junk, .junk, .junk, .junk, .junk, .junk, .junk], []⟩
noncomputable abbrev E_sOpsOk_0_0 : SS := ⟨[.junk, .junk, .t true .bool, .junk, .junk, .junk, .junk, .junk, .junk, .junk, .junk, .junk, .junk, .junk, .junk, .junk, .junk, .junk, .junk, .junk, .junk, .junk, .junk, .junk, .junk, .junk, .junk, .junk, .junk, .junk, .junk, .junk, .junk, .junk, .junk, .junk, .junk], []⟩
noncomputable abbrev E_sOpsOk_0_1 : SS := ⟨[.t false (.sl (.pair (.int .i64) (.pair .str .str))), .junk, .junk, .junk, .junk, .junk, .junk, .junk, .junk, .junk, .junk, .junk, .junk, .junk, .junk, .junk, .junk, .junk, .junk, .junk, .junk, .junk, .junk, .junk, .junk, .junk, .junk, .junk, .junk, .junk, .junk, .junk, .junk, .junk, .junk, .junk, .junk], []⟩
noncomputable def st_sOpsOk_0 (x0 : List (Int × ByteArray × ByteArray)) (x3 : Int) : RT S_sOpsOk_0.den := (.br (decide (x3 < ((x0.length : Nat) : Int))) (.br (decide (0 ≤ x3 ∧ x3 < ((x0.length : Nat) : Int))) (.br (q_sl7Op ((x0.getD x3.toNat ((0 : Int), ((⟨#[]⟩ : ByteArray), (⟨#[]⟩ : ByteArray)))).1) (((x0.getD x3.toNat ((0 : Int), ((⟨#[]⟩ : ByteArray), (⟨#[]⟩ : ByteArray)))).2).1) (((x0.getD x3.toNat ((0 : Int), ((⟨#[]⟩ : ByteArray), (⟨#[]⟩ : ByteArray)))).2).2)) (.br (!(sl7Op ((x0.getD x3.toNat ((0 : Int), ((⟨#[]⟩ : ByteArray), (⟨#[]⟩ : ByteArray)))).1) (((x0.getD x3.toNat ((0 : Int), ((⟨#[]⟩ : ByteArray), (⟨#[]⟩ : ByteArray)))).2).1) (((x0.getD x3.toNat ((0 : Int), ((⟨#[]⟩ : ByteArray), (⟨#[]⟩ : ByteArray)))).2).2))) (.done .ret E_sOpsOk_0_0 (((), (), false, (), (), (), (), (), (), (), (), (), (), (), (), (), (), (), (), (), (), (), (), (), (), (), (), (), (), (), (), (), (), (), (), (), (), ()), ())) (.br (decide (x3 > (0 : Int))) (.br (decide (0 ≤ (IntKind.wrap .i64 (x3 - (1 : Int))) ∧ (IntKind.wrap .i64 (x3 - (1 : Int))) < ((x0.length : Nat) : Int))) (.br (decide (0 ≤ x3 ∧ x3 < ((x0.length : Nat) : Int))) (.br (!(Op.bytesLess (((x0.getD ((IntKind.wrap .i64 (x3 - (1 : Int))).toNat) ((0 : Int), ((⟨#[]⟩ : ByteArray), (⟨#[]⟩ : ByteArray)))).2).1).toList (((x0.getD x3.toNat ((0 : Int), ((⟨#[]⟩ : ByteArray), (⟨#[]⟩ : ByteArray)))).2).1).toList)) (.done .ret E_sOpsOk_0_0 (((), (), false, (), (), (), (), (), (), (), (), (), (), (), (), (), (), (), (), (), (), (), (), (), (), (), (), (), (), (), (), (), (), (), (), (), (), ()), ())) (.next ((x0, (), (), IntKind.wrap .i64 (x3 + (1 : Int)), (), (), (), (), (), (), (), (), (), (), (), (), (), (), (), (), (), (), (), (), (), (), (), (), (), (), (), (), (), (), (), (), (), ()), ()))) .fail) .fail) (.next ((x0, (), (), IntKind.wrap .i64 (x3 + (1 : Int)), (), (), (), (), (), (), (), (), (), (), (), (), (), (), (), (), (), (), (), (), (), (), (), (), (), (), (), (), (), (), (), (), (), ()), ())))) .fail) .fail) (.done (.exit 0) E_sOpsOk_0_1 ((x0, (), (), (), (), (), (), (), (), (), (), (), (), (), (), (), (), (), (), (), (), (), (), (), (), (), (), (), (), (), (), (), (), (), (), (), (), ()), ())))
noncomputable def T_sOpsOk_0 (x0 : List (Int × ByteArray × ByteArray)) (x3 : Int) : CT := (.br (decide (0 ≤ x3) && okOps x0) (.br (allF (sOpAt x0) (x0.length - x3.toNat) x3.toNat) (.done (.exit 0) E_sOpsOk_0_1 ((x0, (), (), (), (), (), (), (), (), (), (), (), (), (), (), (), (), (), (), (), (), (), (), (), (), (), (), (), (), (), (), (), (), (), (), (), (), ()), ())) (.done .ret E_sOpsOk_0_0 (((), (), false, (), (), (), (), (), (), (), (), (), (), (), (), (), (), (), (), (), (), (), (), (), (), (), (), (), (), (), (), (), (), (), (), (), (), ()), ()))) .fail)
noncomputable abbrev sp_sOpsOk_0 : S_sOpsOk_0.den → RT S_sOpsOk_0.den := fun d => st_sOpsOk_0 d.1.1 d.1.2.2.2.1
noncomputable abbrev pk_sOpsOk_0 (x0 : List (Int × ByteArray × ByteArray)) (x3 : Int) : S_sOpsOk_0.den := ((x0, (), (), x3, (), (), (), (), (), (), (), (), (), (), (), (), (), (), (), (), (), (), (), (), (), (), (), (), (), (), (), (), (), (), (), (), (), ()), ())
noncomputable def body_sOpsOk_0 : Code := ((loopsIn 0 (bodyOf Try.f59)).getD 0 (0, .skip)).2
theorem R_sOpsOk_0 (x0 : List (Int × ByteArray × ByteArray)) (x3 : Int) : (T_sOpsOk_0 x0 x3).val (D := S_sOpsOk_0.den) = .fail ∨ Runs sp_sOpsOk_0 (pk_sOpsOk_0 x0 x3) (T_sOpsOk_0 x0 x3).val := by
  cases hc : (decide (0 ≤ x3) && okOps x0) with
  | false => left; simp only [T_sOpsOk_0, CT.val, hc, cond_false]
  | true =>
    right
    simp only [T_sOpsOk_0, CT.val, hc, cond_true]
    simp only [Bool.and_eq_true, decide_eq_true_eq] at hc
    obtain ⟨i, rfl⟩ := Int.eq_ofNat_of_zero_le hc.1
    have hs := okOps_len hc.2
    simp only [Int.toNat_natCast]
    refine Runs.scan (fun j => pk_sOpsOk_0 x0 (j : Int)) (x0.length) (sOpAt x0) (fun i hi => ?_) (fun i hi => ?_) ⟨_, _, _, rfl, by simp⟩ ⟨_, _, _, rfl, by simp⟩ _ _ rfl
    · 
      have h0a : decide ((i : Int) < ((x0.length : Nat) : Int)) = true := decide_eq_true (by omega)
      have h0b : decide (0 ≤ (i : Int) ∧ (i : Int) < ((x0.length : Nat) : Int)) = true := decide_eq_true (by omega)
      simp only [sp_sOpsOk_0, st_sOpsOk_0, RT.val, h0a, h0b, cond_true, wrapS i (by omega), Int.toNat_natCast]
      have hq : q_sl7Op (x0.getD i dOp).1 (x0.getD i dOp).2.1 (x0.getD i dOp).2.2 = true := (okOps_at hc.2 i hi).1
      simp only [dOp] at hq
      simp only [hq, cond_true, sOpAt, dOp]
      cases sl7Op (x0.getD i ((0 : Int), ((⟨#[]⟩ : ByteArray), (⟨#[]⟩ : ByteArray)))).1 (x0.getD i ((0 : Int), ((⟨#[]⟩ : ByteArray), (⟨#[]⟩ : ByteArray)))).2.1 (x0.getD i ((0 : Int), ((⟨#[]⟩ : ByteArray), (⟨#[]⟩ : ByteArray)))).2.2 with
      | false => rfl
      | true =>
        cases i with
        | zero => rfl
        | succ i =>
          have h3 : decide (((i + 1 : Nat) : Int) > 0) = true := decide_eq_true (by omega)
          have h4 : IntKind.wrap .i64 (((i + 1 : Nat) : Int) - 1) = (i : Int) := by have := wrap64 (n := ((i + 1 : Nat) : Int) - 1) (by omega) (by omega); omega
          have h5 : decide (0 ≤ (i : Int) ∧ (i : Int) < ((x0.length : Nat) : Int)) = true := decide_eq_true (by omega)
          have h6 : decide (i + 1 = 0) = false := by simp
          simp only [h3, h4, h5, h6, cond_true, Bool.true_and, Bool.false_or, Int.toNat_natCast, Nat.add_sub_cancel, Bool.not_true, cond_false]
          cases Op.bytesLess (x0.getD i ((0 : Int), ((⟨#[]⟩ : ByteArray), (⟨#[]⟩ : ByteArray)))).2.1.toList (x0.getD (i + 1) ((0 : Int), ((⟨#[]⟩ : ByteArray), (⟨#[]⟩ : ByteArray)))).2.1.toList <;> rfl
    · have h1 : decide ((i : Int) < ((x0.length : Nat) : Int)) = false := decide_eq_false (by omega)
      simp only [sp_sOpsOk_0, st_sOpsOk_0, RT.val, h1, cond_false]
theorem rd_sOpsOk_0 : ∀ d, execC Try.prog tt S29 QF29 (fun _ _ => none) 0 body_sOpsOk_0 (S_sOpsOk_0.st d 0 []) (fun e s' => some (e, S_sOpsOk_0.cutE (kepts [2] [(0, [0])]) e s')) = (sp_sOpsOk_0 d).opt 0 [] := by
  intro d
  kernel_rfl
noncomputable abbrev say_sOpsOk_0 : St → Option Tree := S_sOpsOk_0.say 0 [] [] (fun d => T_sOpsOk_0 d.1.1 d.1.2.2.2.1)
theorem lw_sOpsOk_0 : LoopWp Try.prog say_sOpsOk_0 body_sOpsOk_0 := SS.wp G29 (fun _ _ => none) (by rw [show loopsIn 0 body_sOpsOk_0 = [] by kernel_rfl]; simp) S_sOpsOk_0 0 [] (kepts [2] [(0, [0])]) [] sp_sOpsOk_0 rd_sOpsOk_0 _ (fun d => R_sOpsOk_0 d.1.1 d.1.2.2.2.1)
noncomputable def sOpsOk (a0 : List (Int × ByteArray × ByteArray)) : Bool := (cond (allF (sOpAt a0) (a0.length - (0 : Int).toNat) (0 : Int).toNat) (sl1In ((a0.length : Nat) : Int) (1 : Int) (8 : Int)) false)
noncomputable abbrev e_sOpsOk (r : Bool) : AV × List AObj := ((.t true .bool r), [])
noncomputable abbrev g_sOpsOk : pshsDen P_sOpsOk → AV × List AObj := fun d => e_sOpsOk (sOpsOk d.1)
noncomputable def q_sOpsOk (a0 : List (Int × ByteArray × ByteArray)) : Bool := okOps a0
noncomputable abbrev pre_sOpsOk : pshsDen P_sOpsOk → Bool := fun d => q_sOpsOk d.1
theorem runA_sOpsOk (a0 : List (Int × ByteArray × ByteArray)) (hp : (okOps a0) = true) : runP true Try.prog tt S29 QF29 (fun b => match b with | 0 => say_sOpsOk_0 | _ => fun _ => none) Try.f59 (argsMk P_sOpsOk (a0, ())) = some (g_sOpsOk (a0, ())) := by
  refine Eq.trans (b := (cond (decide (0 ≤ (0 : Int)) && okOps a0) (cond (allF (sOpAt a0) (a0.length - (0 : Int).toNat) (0 : Int).toNat) (some (e_sOpsOk (sl1In ((a0.length : Nat) : Int) (1 : Int) (8 : Int)))) (some (e_sOpsOk false))) none)) (by kernel_rfl) ?_
  exact (cndT (by first | rfl | decide | exact hp | (simp only [Bool.and_eq_true] at hp; simp only [hp]; done) | (simp [*]; done) | (simp [okL] at hp; simp [okL, MAXB]; omega) | (simp_all; done) | (simp at *; omega)) (fun _h => (cnd (F := fun r => some (e_sOpsOk r)) (fun _h => rfl) (fun _h => rfl))))
theorem run_sOpsOk : ∀ d, pre_sOpsOk d = true → runP true Try.prog tt S29 QF29 (fun b => match b with | 0 => say_sOpsOk_0 | _ => fun _ => none) Try.f59 (argsMk P_sOpsOk d) = some (g_sOpsOk d) := fun d hp => runA_sOpsOk d.1 hp
theorem c_sOpsOk : PContract Try.prog 59 (sumOf P_sOpsOk pre_sOpsOk g_sOpsOk) := PContract.of_data true G29 (fn := Try.f59) (by kernel_rfl) (L := fun b => match b with | 0 => say_sOpsOk_0 | _ => fun _ => none) (by rw [show loopsIn 0 (bodyOf Try.f59) = [(0, body_sOpsOk_0)] by kernel_rfl]; intro p hp; simp only [List.mem_singleton] at hp; subst hp; exact lw_sOpsOk_0) P_sOpsOk pre_sOpsOk g_sOpsOk run_sOpsOk
noncomputable def S30 : Tab := Tab.add S29 59 (lift (sumOf P_sOpsOk pre_sOpsOk g_sOpsOk))
noncomputable def QF30 : FuncId → Bool := qadd QF29 59
theorem G30 : Good Try.prog tt S30 QF30 := G29.addQ c_sOpsOk ⟨Try.f59, by kernel_rfl, by kernel_rfl, by kernel_rfl⟩ (fun _ => rfl)

/-! 96 loop.example/g00244/spec.PutNum -/
noncomputable abbrev P_sPutNum : List PSh := [.t (.sl (.int .u8)), .t (.int .i64)]
noncomputable abbrev S_sPutNum_0 : SS := ⟨[.junk, .t true (.int .i64), .junk, .junk, .junk, .all 0 1, .junk, .junk, .junk, .junk, .junk, .junk, .junk, .junk, .junk, .junk, .junk, .junk, .junk, .junk, .junk, .junk, .junk, .junk, .junk, .junk, .junk, .junk, .junk], [.rows 5 true (.int .u8)]⟩
noncomputable abbrev E_sPutNum_0_0 : SS := ⟨[.junk, .t true (.int .i64), .junk, .junk, .junk, .all 0 1, .junk, .junk, .junk, .junk, .junk, .junk, .junk, .junk, .junk, .junk, .junk, .junk, .junk, .junk, .junk, .junk, .junk, .junk, .junk, .junk, .junk, .junk, .junk], [.rows 5 true (.int .u8)]⟩
noncomputable def st_sPutNum_0 (x1 : Int) (h0 : List Int) : RT S_sPutNum_0.den := (.br (decide (x1 > (127 : Int))) (.br (decide ((h0.length + [IntKind.wrap .u8 (ior .i64 (iand .i64 x1 (127 : Int)) (128 : Int))].length) * 1 ≤ MAXB)) (.next (((), Int.fdiv x1 (2 ^ (7)), (), (), (), (), (), (), (), (), (), (), (), (), (), (), (), (), (), (), (), (), (), (), (), (), (), (), (), ()), (h0 ++ [IntKind.wrap .u8 (ior .i64 (iand .i64 x1 (127 : Int)) (128 : Int))], ()))) .fail) (.done (.exit 0) E_sPutNum_0_0 (((), x1, (), (), (), (), (), (), (), (), (), (), (), (), (), (), (), (), (), (), (), (), (), (), (), (), (), (), (), ()), (h0, ()))))
noncomputable def T_sPutNum_0 (x1 : Int) (h0 : List Int) : CT := (.br (decide (0 ≤ x1 ∧ x1 ≤ 1000000000) && decide (h0.length ≤ 35184372088832)) (.done (.exit 0) E_sPutNum_0_0 (((), ((nX x1).2), (), (), (), (), (), (), (), (), (), (), (), (), (), (), (), (), (), (), (), (), (), (), (), (), (), (), (), ()), ((h0 ++ (nX x1).1), ()))) .fail)
noncomputable abbrev sp_sPutNum_0 : S_sPutNum_0.den → RT S_sPutNum_0.den := fun d => st_sPutNum_0 d.1.2.1 d.2.1
noncomputable abbrev pk_sPutNum_0 (x1 : Int) (h0 : List Int) : S_sPutNum_0.den := (((), x1, (), (), (), (), (), (), (), (), (), (), (), (), (), (), (), (), (), (), (), (), (), (), (), (), (), (), (), ()), (h0, ()))
noncomputable def body_sPutNum_0 : Code := ((loopsIn 0 (bodyOf Try.f96)).getD 0 (0, .skip)).2
theorem R_sPutNum_0 (x1 : Int) (h0 : List Int) : (T_sPutNum_0 x1 h0).val (D := S_sPutNum_0.den) = .fail ∨ Runs sp_sPutNum_0 (pk_sPutNum_0 x1 h0) (T_sPutNum_0 x1 h0).val := by
  cases hc : (decide (0 ≤ x1 ∧ x1 ≤ 1000000000) && decide (h0.length ≤ 35184372088832)) with
  | false => left; simp only [T_sPutNum_0, CT.val, hc, cond_false]
  | true =>
    right
    simp only [T_sPutNum_0, CT.val, hc, cond_true]
    simp only [Bool.and_eq_true, decide_eq_true_eq] at hc
    rw [nX_eq]
    have key : ∀ (k : Nat) (x1 : Int) (h0 : List Int), 0 ≤ x1 → x1 < 128 ^ (k + 1) → h0.length + k ≤ 70368744177664 → Runs sp_sPutNum_0 (pk_sPutNum_0 x1 h0) (((.done (.exit 0) E_sPutNum_0_0 (((), ((hiF gNum k x1).2), (), (), (), (), (), (), (), (), (), (), (), (), (), (), (), (), (), (), (), (), (), (), (), (), (), (), (), ()), ((h0 ++ (hiF gNum k x1).1), ()))) : CT).val (D := S_sPutNum_0.den)) := by
      intro k
      induction k with
      | zero =>
        intro x h h1 h2 h3
        have e1 : decide (x > 127) = false := decide_eq_false (by simp at h2; omega)
        refine .done (by simp) ?_
        simp only [sp_sPutNum_0, st_sPutNum_0, RT.val, e1, cond_false, hiF, List.append_nil]
      | succ k ih =>
        intro x h h1 h2 h3
        rw [Int.pow_succ] at h2
        by_cases hx : x > 127
        · have e1 : decide (x > 127) = true := decide_eq_true hx
          have e2 : decide ((h.length + [gNum x].length) * 1 ≤ MAXB) = true := decide_eq_true (by simp [MAXB]; omega)
          simp only [gNum] at e2
          have := ih (Int.fdiv x (2 ^ 7)) (h ++ [gNum x]) (by rw [fdiv128]; omega) (by rw [fdiv128]; omega) (by simp; omega)
          refine .next (d' := pk_sPutNum_0 (Int.fdiv x (2 ^ 7)) (h ++ [gNum x])) ?_ ?_
          · simp only [sp_sPutNum_0, st_sPutNum_0, RT.val, e1, e2, cond_true]; rfl
          · have e3 : hiF gNum (k + 1) x = (gNum x :: (hiF gNum k (Int.fdiv x (2 ^ 7))).1, (hiF gNum k (Int.fdiv x (2 ^ 7))).2) := by simp only [hiF, e1, cond_true]
            rw [e3]
            simpa [List.append_assoc] using this
        · have e1 : decide (x > 127) = false := decide_eq_false hx
          refine .done (by simp) ?_
          simp only [sp_sPutNum_0, st_sPutNum_0, RT.val, e1, cond_false, hiF, List.append_nil]
    exact key 4 x1 h0 hc.1.1 (by have := hc.1.2; simp; omega) (by have := hc.2; omega)
theorem rd_sPutNum_0 : ∀ d, execC Try.prog tt S30 QF30 (fun _ _ => none) 0 body_sPutNum_0 (S_sPutNum_0.st d 0 []) (fun e s' => some (e, S_sPutNum_0.cutE (kepts [] [(0, [1, 5])]) e s')) = (sp_sPutNum_0 d).opt 0 [] := by
  intro d
  kernel_rfl
noncomputable abbrev say_sPutNum_0 : St → Option Tree := S_sPutNum_0.say 0 [] [] (fun d => T_sPutNum_0 d.1.2.1 d.2.1)
theorem lw_sPutNum_0 : LoopWp Try.prog say_sPutNum_0 body_sPutNum_0 := SS.wp G30 (fun _ _ => none) (by rw [show loopsIn 0 body_sPutNum_0 = [] by kernel_rfl]; simp) S_sPutNum_0 0 [] (kepts [] [(0, [1, 5])]) [] sp_sPutNum_0 rd_sPutNum_0 _ (fun d => R_sPutNum_0 d.1.2.1 d.2.1)
noncomputable def sPutNum (a0 : List Int) (a1 : Int) : List Int := (cond (decide (a1 > (1000000000 : Int))) (((([] : List Int) ++ a0) ++ (nX (1000000000 : Int)).1) ++ [IntKind.wrap .u8 ((nX (1000000000 : Int)).2)]) (cond (decide (a1 < (0 : Int))) (((([] : List Int) ++ a0) ++ (nX (0 : Int)).1) ++ [IntKind.wrap .u8 ((nX (0 : Int)).2)]) (((([] : List Int) ++ a0) ++ (nX a1).1) ++ [IntKind.wrap .u8 ((nX a1).2)])))
noncomputable abbrev e_sPutNum (r : List Int) : AV × List AObj := ((.all 0 1), [(.rows 5 true (.int .u8) r)])
noncomputable abbrev g_sPutNum : pshsDen P_sPutNum → AV × List AObj := fun d => e_sPutNum (sPutNum d.1 d.2.1)
noncomputable def q_sPutNum (a0 : List Int) (a1 : Int) : Bool := decide (a0.length ≤ 17592186044416)
noncomputable abbrev pre_sPutNum : pshsDen P_sPutNum → Bool := fun d => q_sPutNum d.1 d.2.1
theorem runA_sPutNum (a0 : List Int) (a1 : Int) (hp : (decide (a0.length ≤ 17592186044416)) = true) : runP false Try.prog tt S30 QF30 (fun b => match b with | 0 => say_sPutNum_0 | _ => fun _ => none) Try.f96 (argsMk P_sPutNum (a0, (a1, ()))) = some (g_sPutNum (a0, (a1, ()))) := by
  refine Eq.trans (b := (cond (decide ((([] : List Int).length + a0.length) * 1 ≤ MAXB)) (cond (decide (a1 > (1000000000 : Int))) (cond (decide (0 ≤ (1000000000 : Int) ∧ (1000000000 : Int) ≤ 1000000000) && decide ((([] : List Int) ++ a0).length ≤ 35184372088832)) (cond (decide ((((([] : List Int) ++ a0) ++ (nX (1000000000 : Int)).1).length + [IntKind.wrap .u8 ((nX (1000000000 : Int)).2)].length) * 1 ≤ MAXB)) (some (e_sPutNum (((([] : List Int) ++ a0) ++ (nX (1000000000 : Int)).1) ++ [IntKind.wrap .u8 ((nX (1000000000 : Int)).2)]))) none) none) (cond (decide (a1 < (0 : Int))) (cond (decide (0 ≤ (0 : Int) ∧ (0 : Int) ≤ 1000000000) && decide ((([] : List Int) ++ a0).length ≤ 35184372088832)) (cond (decide ((((([] : List Int) ++ a0) ++ (nX (0 : Int)).1).length + [IntKind.wrap .u8 ((nX (0 : Int)).2)].length) * 1 ≤ MAXB)) (some (e_sPutNum (((([] : List Int) ++ a0) ++ (nX (0 : Int)).1) ++ [IntKind.wrap .u8 ((nX (0 : Int)).2)]))) none) none) (cond (decide (0 ≤ a1 ∧ a1 ≤ 1000000000) && decide ((([] : List Int) ++ a0).length ≤ 35184372088832)) (cond (decide ((((([] : List Int) ++ a0) ++ (nX a1).1).length + [IntKind.wrap .u8 ((nX a1).2)].length) * 1 ≤ MAXB)) (some (e_sPutNum (((([] : List Int) ++ a0) ++ (nX a1).1) ++ [IntKind.wrap .u8 ((nX a1).2)]))) none) none))) none)) (by kernel_rfl) ?_
  exact (cndT (by have h1 := nX_len a1; have h2 := nX_len 0; have h3 := nX_len 1000000000; simp only [decide_eq_true_eq, decide_eq_false_iff_not, Bool.and_eq_true] at *; (try simp [MAXB]) <;> omega) (fun _h => (cnd (F := fun r => some (e_sPutNum r)) (fun _h => (cndT (by have h1 := nX_len a1; have h2 := nX_len 0; have h3 := nX_len 1000000000; simp only [decide_eq_true_eq, decide_eq_false_iff_not, Bool.and_eq_true] at *; (try simp [MAXB]) <;> omega) (fun _h => (cndT (by have h1 := nX_len a1; have h2 := nX_len 0; have h3 := nX_len 1000000000; simp only [decide_eq_true_eq, decide_eq_false_iff_not, Bool.and_eq_true] at *; (try simp [MAXB]) <;> omega) (fun _h => rfl))))) (fun _h => (cnd (F := fun r => some (e_sPutNum r)) (fun _h => (cndT (by have h1 := nX_len a1; have h2 := nX_len 0; have h3 := nX_len 1000000000; simp only [decide_eq_true_eq, decide_eq_false_iff_not, Bool.and_eq_true] at *; (try simp [MAXB]) <;> omega) (fun _h => (cndT (by have h1 := nX_len a1; have h2 := nX_len 0; have h3 := nX_len 1000000000; simp only [decide_eq_true_eq, decide_eq_false_iff_not, Bool.and_eq_true] at *; (try simp [MAXB]) <;> omega) (fun _h => rfl))))) (fun _h => (cndT (by have h1 := nX_len a1; have h2 := nX_len 0; have h3 := nX_len 1000000000; simp only [decide_eq_true_eq, decide_eq_false_iff_not, Bool.and_eq_true] at *; (try simp [MAXB]) <;> omega) (fun _h => (cndT (by have h1 := nX_len a1; have h2 := nX_len 0; have h3 := nX_len 1000000000; simp only [decide_eq_true_eq, decide_eq_false_iff_not, Bool.and_eq_true] at *; (try simp [MAXB]) <;> omega) (fun _h => rfl))))))))))
theorem run_sPutNum : ∀ d, pre_sPutNum d = true → runP false Try.prog tt S30 QF30 (fun b => match b with | 0 => say_sPutNum_0 | _ => fun _ => none) Try.f96 (argsMk P_sPutNum d) = some (g_sPutNum d) := fun d hp => runA_sPutNum d.1 d.2.1 hp
theorem c_sPutNum : PContract Try.prog 96 (sumOf P_sPutNum pre_sPutNum g_sPutNum) := PContract.of_data false G30 (fn := Try.f96) (by kernel_rfl) (L := fun b => match b with | 0 => say_sPutNum_0 | _ => fun _ => none) (by rw [show loopsIn 0 (bodyOf Try.f96) = [(0, body_sPutNum_0)] by kernel_rfl]; intro p hp; simp only [List.mem_singleton] at hp; subst hp; exact lw_sPutNum_0) P_sPutNum pre_sPutNum g_sPutNum run_sPutNum
noncomputable def S31 : Tab := Tab.add S30 96 (lift (sumOf P_sPutNum pre_sPutNum g_sPutNum))
noncomputable def QF31 : FuncId → Bool := QF30
theorem G31 : Good Try.prog tt S31 QF31 := G30.add c_sPutNum ⟨Try.f96, by kernel_rfl, by kernel_rfl, by kernel_rfl⟩ (by kernel_rfl)
theorem sPutNum_eq (b : List Int) (n : Int) : sPutNum b n = b ++ numB (clampN n) := by
  simp only [sPutNum, numB, clampN]
  by_cases h1 : n > 1000000000
  · simp [h1]
  · by_cases h2 : n < 0
    · simp [h1, h2]
    · simp [h1, h2]
theorem sPutNum_len (b : List Int) (n : Int) : (sPutNum b n).length ≤ b.length + 5 := by
  rw [sPutNum_eq, List.length_append]
  have := numB_len (clampN n)
  omega

/-! 140 loop.example/g00244/spec.PutText -/
noncomputable abbrev P_sPutText : List PSh := [.t (.sl (.int .u8)), .t .str]
noncomputable def sPutText (a0 : List Int) (a1 : ByteArray) : List Int := ((sPutNum a0 ((a1.size : Nat) : Int)) ++ strInts a1)
noncomputable abbrev e_sPutText (r : List Int) : AV × List AObj := ((.all 0 1), [(.rows 5 true (.int .u8) r)])
noncomputable abbrev g_sPutText : pshsDen P_sPutText → AV × List AObj := fun d => e_sPutText (sPutText d.1 d.2.1)
noncomputable def q_sPutText (a0 : List Int) (a1 : ByteArray) : Bool := decide (a0.length ≤ 8796093022208) && okS a1
noncomputable abbrev pre_sPutText : pshsDen P_sPutText → Bool := fun d => q_sPutText d.1 d.2.1
theorem runA_sPutText (a0 : List Int) (a1 : ByteArray) (hp : (decide (a0.length ≤ 8796093022208) && okS a1) = true) : runP false Try.prog tt S31 QF31 (fun _ _ => none) Try.f140 (argsMk P_sPutText (a0, (a1, ()))) = some (g_sPutText (a0, (a1, ()))) := by
  refine Eq.trans (b := (cond (q_sPutNum a0 ((a1.size : Nat) : Int)) (cond (decide ((sPutNum a0 ((a1.size : Nat) : Int)).length + a1.size ≤ MAXB)) (some (e_sPutText ((sPutNum a0 ((a1.size : Nat) : Int)) ++ strInts a1))) none) none)) (by kernel_rfl) ?_
  exact (cndT (by have h1 := sPutNum_len a0 ((a1.size : Nat) : Int); simp only [q_sPutNum, okS, decide_eq_true_eq, decide_eq_false_iff_not, Bool.and_eq_true] at *; (try simp [MAXB]) <;> omega) (fun _h => (cndT (by have h1 := sPutNum_len a0 ((a1.size : Nat) : Int); simp only [q_sPutNum, okS, decide_eq_true_eq, decide_eq_false_iff_not, Bool.and_eq_true] at *; (try simp [MAXB]) <;> omega) (fun _h => rfl))))
theorem run_sPutText : ∀ d, pre_sPutText d = true → runP false Try.prog tt S31 QF31 (fun _ _ => none) Try.f140 (argsMk P_sPutText d) = some (g_sPutText d) := fun d hp => runA_sPutText d.1 d.2.1 hp
theorem c_sPutText : PContract Try.prog 140 (sumOf P_sPutText pre_sPutText g_sPutText) := PContract.of_data false G31 (fn := Try.f140) (by kernel_rfl) (L := fun _ _ => none) (by rw [show loopsIn 0 (bodyOf Try.f140) = [] by kernel_rfl]; simp) P_sPutText pre_sPutText g_sPutText run_sPutText
noncomputable def S32 : Tab := Tab.add S31 140 (lift (sumOf P_sPutText pre_sPutText g_sPutText))
noncomputable def QF32 : FuncId → Bool := QF31
theorem G32 : Good Try.prog tt S32 QF32 := G31.add c_sPutText ⟨Try.f140, by kernel_rfl, by kernel_rfl, by kernel_rfl⟩ (by kernel_rfl)
theorem sPutText_eq (b : List Int) (s : ByteArray) (h : okS s = true) : sPutText b s = b ++ textB s := by
  simp only [okS, decide_eq_true_eq] at h
  simp only [sPutText, sPutNum_eq, textB, List.append_assoc]
  rw [clampN_of (by omega) (by omega)]
theorem sPutText_len (b : List Int) (s : ByteArray) (h : okS s = true) : (sPutText b s).length ≤ b.length + 5 + s.size := by
  rw [sPutText_eq b s h, List.length_append]
  have := textB_len s
  omega

/-! 98 loop.example/g00244/spec.PutOps -/
noncomputable def sOpPut (l : List (Int × ByteArray × ByteArray)) (i : Nat) (h : List Int) : List Int := sPutText (sPutText (sPutNum h (l.getD i dOp).1) (l.getD i dOp).2.1) (l.getD i dOp).2.2
noncomputable abbrev P_sPutOps : List PSh := [.t (.sl (.pair (.int .i64) (.pair .str .str)))]
noncomputable abbrev S_sPutOps_0 : SS := ⟨[.t false (.sl (.pair (.int .i64) (.pair .str .str))), .junk, .junk, .all 0 1, .t true (.int .i64), .junk, .junk, .junk, .junk, .junk, .junk, .junk, .junk, .junk, .junk, .junk, .junk, .junk, .junk, .junk, .junk, .junk, .junk, .junk, .junk, .junk, .junk, .junk, .junk, .junk, .junk, .junk, .junk, .junk, .junk, .junk, .junk, .junk, .junk], [.rows 5 true (.int .u8)]⟩
noncomputable abbrev E_sPutOps_0_0 : SS := ⟨[.junk, .junk, .junk, .all 0 1, .junk, .junk, .junk, .junk, .junk, .junk, .junk, .junk, .junk, .junk, .junk, .junk, .junk, .junk, .junk, .junk, .junk, .junk, .junk, .junk, .junk, .junk, .junk, .junk, .junk, .junk, .junk, .junk, .junk, .junk, .junk, .junk, .junk, .junk, .junk], [.rows 5 true (.int .u8)]⟩
noncomputable def st_sPutOps_0 (x0 : List (Int × ByteArray × ByteArray)) (x4 : Int) (h0 : List Int) : RT S_sPutOps_0.den := (.br (decide (x4 < ((x0.length : Nat) : Int))) (.br (decide (0 ≤ x4 ∧ x4 < ((x0.length : Nat) : Int))) (.br (decide (0 ≤ x4 ∧ x4 < ((x0.length : Nat) : Int))) (.br (decide (0 ≤ x4 ∧ x4 < ((x0.length : Nat) : Int))) (.br (q_sPutNum h0 ((x0.getD x4.toNat ((0 : Int), ((⟨#[]⟩ : ByteArray), (⟨#[]⟩ : ByteArray)))).1)) (.br (q_sPutText (sPutNum h0 ((x0.getD x4.toNat ((0 : Int), ((⟨#[]⟩ : ByteArray), (⟨#[]⟩ : ByteArray)))).1)) (((x0.getD x4.toNat ((0 : Int), ((⟨#[]⟩ : ByteArray), (⟨#[]⟩ : ByteArray)))).2).1)) (.br (q_sPutText (sPutText (sPutNum h0 ((x0.getD x4.toNat ((0 : Int), ((⟨#[]⟩ : ByteArray), (⟨#[]⟩ : ByteArray)))).1)) (((x0.getD x4.toNat ((0 : Int), ((⟨#[]⟩ : ByteArray), (⟨#[]⟩ : ByteArray)))).2).1)) (((x0.getD x4.toNat ((0 : Int), ((⟨#[]⟩ : ByteArray), (⟨#[]⟩ : ByteArray)))).2).2)) (.next ((x0, (), (), (), IntKind.wrap .i64 (x4 + (1 : Int)), (), (), (), (), (), (), (), (), (), (), (), (), (), (), (), (), (), (), (), (), (), (), (), (), (), (), (), (), (), (), (), (), (), (), ()), ((sPutText (sPutText (sPutNum h0 ((x0.getD x4.toNat ((0 : Int), ((⟨#[]⟩ : ByteArray), (⟨#[]⟩ : ByteArray)))).1)) (((x0.getD x4.toNat ((0 : Int), ((⟨#[]⟩ : ByteArray), (⟨#[]⟩ : ByteArray)))).2).1)) (((x0.getD x4.toNat ((0 : Int), ((⟨#[]⟩ : ByteArray), (⟨#[]⟩ : ByteArray)))).2).2)), ()))) .fail) .fail) .fail) .fail) .fail) .fail) (.done (.exit 0) E_sPutOps_0_0 (((), (), (), (), (), (), (), (), (), (), (), (), (), (), (), (), (), (), (), (), (), (), (), (), (), (), (), (), (), (), (), (), (), (), (), (), (), (), (), ()), (h0, ()))))
noncomputable def T_sPutOps_0 (x0 : List (Int × ByteArray × ByteArray)) (x4 : Int) (h0 : List Int) : CT := (.br (decide (0 ≤ x4) && (decide (h0.length ≤ 4194304 * (x4.toNat + 1)) && okOps x0)) (.done (.exit 0) E_sPutOps_0_0 (((), (), (), (), (), (), (), (), (), (), (), (), (), (), (), (), (), (), (), (), (), (), (), (), (), (), (), (), (), (), (), (), (), (), (), (), (), (), (), ()), ((foldN (sOpPut x0) (x0.length - x4.toNat) x4.toNat h0), ()))) .fail)
noncomputable abbrev sp_sPutOps_0 : S_sPutOps_0.den → RT S_sPutOps_0.den := fun d => st_sPutOps_0 d.1.1 d.1.2.2.2.2.1 d.2.1
noncomputable abbrev pk_sPutOps_0 (x0 : List (Int × ByteArray × ByteArray)) (x4 : Int) (h0 : List Int) : S_sPutOps_0.den := ((x0, (), (), (), x4, (), (), (), (), (), (), (), (), (), (), (), (), (), (), (), (), (), (), (), (), (), (), (), (), (), (), (), (), (), (), (), (), (), (), ()), (h0, ()))
noncomputable def body_sPutOps_0 : Code := ((loopsIn 0 (bodyOf Try.f98)).getD 0 (0, .skip)).2
theorem R_sPutOps_0 (x0 : List (Int × ByteArray × ByteArray)) (x4 : Int) (h0 : List Int) : (T_sPutOps_0 x0 x4 h0).val (D := S_sPutOps_0.den) = .fail ∨ Runs sp_sPutOps_0 (pk_sPutOps_0 x0 x4 h0) (T_sPutOps_0 x0 x4 h0).val := by
  cases hc : (decide (0 ≤ x4) && (decide (h0.length ≤ 4194304 * (x4.toNat + 1)) && okOps x0)) with
  | false => left; simp only [T_sPutOps_0, CT.val, hc, cond_false]
  | true =>
    right
    simp only [T_sPutOps_0, CT.val, hc, cond_true]
    simp only [Bool.and_eq_true, decide_eq_true_eq] at hc
    obtain ⟨i, rfl⟩ := Int.eq_ofNat_of_zero_le hc.1
    have hs := okOps_len hc.2.2
    have hb0 := hc.2.1
    simp only [Int.toNat_natCast] at hb0 ⊢
    refine Runs.foldN (step := sp_sPutOps_0) (fun j b => pk_sPutOps_0 x0 (j : Int) b) (fun i b => b.length ≤ 4194304 * (i + 1)) (x0.length) (sOpPut x0)
      (fin := fun b => ((.done (.exit 0) E_sPutOps_0_0 (((), (), (), (), (), (), (), (), (), (), (), (), (), (), (), (), (), (), (), (), (), (), (), (), (), (), (), (), (), (), (), (), (), (), (), (), (), (), (), ()), (b, ()))) : CT).val) (fun i b hi hb => ?_) (fun i b hi hb => ?_) (x0.length - i) i h0 rfl hb0
    · obtain ⟨k1, k2⟩ := okOps_at hc.2.2 i hi
      have l1 := sPutNum_len b (x0.getD i dOp).1
      have l2 := sPutText_len (sPutNum b (x0.getD i dOp).1) (x0.getD i dOp).2.1 k1
      have l3 := sPutText_len (sPutText (sPutNum b (x0.getD i dOp).1) (x0.getD i dOp).2.1) (x0.getD i dOp).2.2 k2
      have m1 := okS_le k1
      have m2 := okS_le k2
      have q1 : q_sPutNum b (x0.getD i dOp).1 = true := by simp only [q_sPutNum, decide_eq_true_eq]; omega
      have q2 : q_sPutText (sPutNum b (x0.getD i dOp).1) (x0.getD i dOp).2.1 = true := by simp only [q_sPutText, k1, Bool.and_true, decide_eq_true_eq]; omega
      have q3 : q_sPutText (sPutText (sPutNum b (x0.getD i dOp).1) (x0.getD i dOp).2.1) (x0.getD i dOp).2.2 = true := by simp only [q_sPutText, k2, Bool.and_true, decide_eq_true_eq]; omega
      refine ⟨by simp only [sOpPut]; omega, ?_⟩
      have h0a : decide ((i : Int) < ((x0.length : Nat) : Int)) = true := decide_eq_true (by omega)
      have h0b : decide (0 ≤ (i : Int) ∧ (i : Int) < ((x0.length : Nat) : Int)) = true := decide_eq_true (by omega)
      simp only [dOp] at q1 q2 q3
      simp only [sp_sPutOps_0, st_sPutOps_0, RT.val, h0a, h0b, cond_true, wrapS i (by omega), Int.toNat_natCast, q1, q2, q3]
      rfl
    · have h1 : decide ((i : Int) < ((x0.length : Nat) : Int)) = false := decide_eq_false (by omega)
      exact ⟨by simp only [sp_sPutOps_0, st_sPutOps_0, RT.val, h1, cond_false]; rfl, _, _, _, rfl, by simp⟩
theorem rd_sPutOps_0 : ∀ d, execC Try.prog tt S32 QF32 (fun _ _ => none) 0 body_sPutOps_0 (S_sPutOps_0.st d 0 []) (fun e s' => some (e, S_sPutOps_0.cutE (kepts [] [(0, [3])]) e s')) = (sp_sPutOps_0 d).opt 0 [] := by
  intro d
  kernel_rfl
noncomputable abbrev say_sPutOps_0 : St → Option Tree := S_sPutOps_0.say 0 [] [] (fun d => T_sPutOps_0 d.1.1 d.1.2.2.2.2.1 d.2.1)
theorem lw_sPutOps_0 : LoopWp Try.prog say_sPutOps_0 body_sPutOps_0 := SS.wp G32 (fun _ _ => none) (by rw [show loopsIn 0 body_sPutOps_0 = [] by kernel_rfl]; simp) S_sPutOps_0 0 [] (kepts [] [(0, [3])]) [] sp_sPutOps_0 rd_sPutOps_0 _ (fun d => R_sPutOps_0 d.1.1 d.1.2.2.2.2.1 d.2.1)
noncomputable def sPutOps (a0 : List (Int × ByteArray × ByteArray)) : List Int := (cond (!(sOpsOk a0)) ([] : List Int) (foldN (sOpPut a0) (a0.length - (0 : Int).toNat) (0 : Int).toNat (sPutNum ([] : List Int) ((a0.length : Nat) : Int))))
noncomputable abbrev e_sPutOps (r : List Int) : AV × List AObj := ((.all 0 1), [(.rows 5 true (.int .u8) r)])
noncomputable abbrev g_sPutOps : pshsDen P_sPutOps → AV × List AObj := fun d => e_sPutOps (sPutOps d.1)
noncomputable def q_sPutOps (a0 : List (Int × ByteArray × ByteArray)) : Bool := okOps a0
noncomputable abbrev pre_sPutOps : pshsDen P_sPutOps → Bool := fun d => q_sPutOps d.1
theorem runA_sPutOps (a0 : List (Int × ByteArray × ByteArray)) (hp : (okOps a0) = true) : runP false Try.prog tt S32 QF32 (fun b => match b with | 0 => say_sPutOps_0 | _ => fun _ => none) Try.f98 (argsMk P_sPutOps (a0, ())) = some (g_sPutOps (a0, ())) := by
  refine Eq.trans (b := (cond (q_sOpsOk a0) (cond (!(sOpsOk a0)) (some (e_sPutOps ([] : List Int))) (cond (q_sPutNum ([] : List Int) ((a0.length : Nat) : Int)) (cond (decide (0 ≤ (0 : Int)) && (decide ((sPutNum ([] : List Int) ((a0.length : Nat) : Int)).length ≤ 4194304 * ((0 : Int).toNat + 1)) && okOps a0)) (some (e_sPutOps (foldN (sOpPut a0) (a0.length - (0 : Int).toNat) (0 : Int).toNat (sPutNum ([] : List Int) ((a0.length : Nat) : Int))))) none) none)) none)) (by kernel_rfl) ?_
  exact (cndT (by have h1 := sPutNum_len [] ((a0.length : Nat) : Int); have hs := okOps_len hp; simp only [q_sOpsOk, q_sPutNum, hp, Bool.and_true, Bool.true_and, Bool.and_eq_true, decide_eq_true_eq] <;> (try simp only [List.length_nil, Int.toNat_zero, Int.le_refl, true_and] at h1 ⊢) <;> omega) (fun _h => (cnd (F := fun r => some (e_sPutOps r)) (fun _h => rfl) (fun _h => (cndT (by have h1 := sPutNum_len [] ((a0.length : Nat) : Int); have hs := okOps_len hp; simp only [q_sOpsOk, q_sPutNum, hp, Bool.and_true, Bool.true_and, Bool.and_eq_true, decide_eq_true_eq] <;> (try simp only [List.length_nil, Int.toNat_zero, Int.le_refl, true_and] at h1 ⊢) <;> omega) (fun _h => (cndT (by have h1 := sPutNum_len [] ((a0.length : Nat) : Int); have hs := okOps_len hp; simp only [q_sOpsOk, q_sPutNum, hp, Bool.and_true, Bool.true_and, Bool.and_eq_true, decide_eq_true_eq] <;> (try simp only [List.length_nil, Int.toNat_zero, Int.le_refl, true_and] at h1 ⊢) <;> omega) (fun _h => rfl))))))))
theorem run_sPutOps : ∀ d, pre_sPutOps d = true → runP false Try.prog tt S32 QF32 (fun b => match b with | 0 => say_sPutOps_0 | _ => fun _ => none) Try.f98 (argsMk P_sPutOps d) = some (g_sPutOps d) := fun d hp => runA_sPutOps d.1 hp
theorem c_sPutOps : PContract Try.prog 98 (sumOf P_sPutOps pre_sPutOps g_sPutOps) := PContract.of_data false G32 (fn := Try.f98) (by kernel_rfl) (L := fun b => match b with | 0 => say_sPutOps_0 | _ => fun _ => none) (by rw [show loopsIn 0 (bodyOf Try.f98) = [(0, body_sPutOps_0)] by kernel_rfl]; intro p hp; simp only [List.mem_singleton] at hp; subst hp; exact lw_sPutOps_0) P_sPutOps pre_sPutOps g_sPutOps run_sPutOps
noncomputable def S33 : Tab := Tab.add S32 98 (lift (sumOf P_sPutOps pre_sPutOps g_sPutOps))
noncomputable def QF33 : FuncId → Bool := QF32
theorem G33 : Good Try.prog tt S33 QF33 := G32.add c_sPutOps ⟨Try.f98, by kernel_rfl, by kernel_rfl, by kernel_rfl⟩ (by kernel_rfl)
theorem sPutOps_eq (l : List (Int × ByteArray × ByteArray)) (ho : okOps l = true) : sPutOps l = cond (!(sOpsOk l)) [] (numB (clampN (l.length : Int)) ++ (l.map opB).flatten) := by
  simp only [sPutOps]
  congr 1
  have := foldN_app opB dOp l (sOpPut l) (fun i h hi => by
    obtain ⟨k1, k2⟩ := okOps_at ho i hi
    simp only [sOpPut, sPutText_eq _ _ k1, sPutText_eq _ _ k2, sPutNum_eq, opB, List.append_assoc]) l.length 0 (sPutNum [] (l.length : Int)) (by omega)
  rw [sPutNum_eq, List.nil_append, List.drop_zero] at this
  rw [← this]
  rw [sPutNum_eq, List.nil_append]
  rfl
theorem sPutOps_len (l : List (Int × ByteArray × ByteArray)) (ho : okOps l = true) : (sPutOps l).length ≤ 4398046511104 := by
  rw [sPutOps_eq l ho]
  have h1 := numB_len (clampN (l.length : Int))
  have h2 := flat_len (M := 2097167) l (fun o ho' => by have := okOps_mem ho o ho'; have := opB_len o; omega)
  have h3 := okOps_len ho
  have h4 : 2097167 * l.length ≤ 2097167 * 1048576 := Nat.mul_le_mul_left _ h3
  cases sOpsOk l with
  | true => simp only [Bool.not_true, cond_false, List.length_append]; omega
  | false => simp


/-! 55 loop.example/g00244/spec.DrawGetOps -/
noncomputable abbrev P_sDrawGetOps : List PSh := [.t (.sl (.int .u8))]
noncomputable def k1_sDrawGetOps (a0 : List Int) := sl1Below (5 : Int) ((sl7Draw ((sl1New a0).1) ((sl1New a0).2.1) ((sl1New a0).2.2)).1) ((sl7Draw ((sl1New a0).1) ((sl1New a0).2.1) ((sl1New a0).2.2)).2.1) ((sl7Draw ((sl1New a0).1) ((sl1New a0).2.1) ((sl1New a0).2.2)).2.2.1)
noncomputable def k2_sDrawGetOps (a0 : List Int) := sl1Below (((sPutOps ((sl7Draw ((sl1New a0).1) ((sl1New a0).2.1) ((sl1New a0).2.2)).2.2.2)).length : Nat) : Int) ((k1_sDrawGetOps a0).2.1) ((k1_sDrawGetOps a0).2.2.1) ((k1_sDrawGetOps a0).2.2.2)
noncomputable def k3_sDrawGetOps (a0 : List Int) := sl1Int ((k2_sDrawGetOps a0).2.1) ((k2_sDrawGetOps a0).2.2.1) ((k2_sDrawGetOps a0).2.2.2) [(0 : Int), (1 : Int), (2 : Int), (97 : Int), (128 : Int)]
noncomputable def sDrawGetOps (a0 : List Int) : List Int := (cond (((k1_sDrawGetOps a0).1) == (0 : Int)) ((sPutOps ((sl7Draw ((sl1New a0).1) ((sl1New a0).2.1) ((sl1New a0).2.2)).2.2.2)).set (((k2_sDrawGetOps a0).1).toNat) (IntKind.wrap .u8 ((k3_sDrawGetOps a0).1))) (cond (((k1_sDrawGetOps a0).1) == (1 : Int)) (((sPutOps ((sl7Draw ((sl1New a0).1) ((sl1New a0).2.1) ((sl1New a0).2.2)).2.2.2)).drop ((0 : Int).toNat)).take (((k2_sDrawGetOps a0).1).toNat - (0 : Int).toNat)) (sPutOps ((sl7Draw ((sl1New a0).1) ((sl1New a0).2.1) ((sl1New a0).2.2)).2.2.2))))
noncomputable abbrev e_sDrawGetOps (r : List Int) : AV × List AObj := ((.t true (.sl (.int .u8)) r), [])
noncomputable abbrev g_sDrawGetOps : pshsDen P_sDrawGetOps → AV × List AObj := fun d => e_sDrawGetOps (sDrawGetOps d.1)
noncomputable def q_sDrawGetOps (a0 : List Int) : Bool := (q_sl1New a0) && ((q_sl7Draw ((sl1New a0).1) ((sl1New a0).2.1) ((sl1New a0).2.2)) && ((q_sPutOps ((sl7Draw ((sl1New a0).1) ((sl1New a0).2.1) ((sl1New a0).2.2)).2.2.2)) && ((q_sl1Below (5 : Int) ((sl7Draw ((sl1New a0).1) ((sl1New a0).2.1) ((sl1New a0).2.2)).1) ((sl7Draw ((sl1New a0).1) ((sl1New a0).2.1) ((sl1New a0).2.2)).2.1) ((sl7Draw ((sl1New a0).1) ((sl1New a0).2.1) ((sl1New a0).2.2)).2.2.1)) && (cond (((k1_sDrawGetOps a0).1) == (0 : Int)) ((q_sl1Below (((sPutOps ((sl7Draw ((sl1New a0).1) ((sl1New a0).2.1) ((sl1New a0).2.2)).2.2.2)).length : Nat) : Int) ((k1_sDrawGetOps a0).2.1) ((k1_sDrawGetOps a0).2.2.1) ((k1_sDrawGetOps a0).2.2.2)) && ((q_sl1Int ((k2_sDrawGetOps a0).2.1) ((k2_sDrawGetOps a0).2.2.1) ((k2_sDrawGetOps a0).2.2.2) [(0 : Int), (1 : Int), (2 : Int), (97 : Int), (128 : Int)]) && (decide (0 ≤ ((k2_sDrawGetOps a0).1) ∧ ((k2_sDrawGetOps a0).1) < (((sPutOps ((sl7Draw ((sl1New a0).1) ((sl1New a0).2.1) ((sl1New a0).2.2)).2.2.2)).length : Nat) : Int))))) (cond (((k1_sDrawGetOps a0).1) == (1 : Int)) ((q_sl1Below (((sPutOps ((sl7Draw ((sl1New a0).1) ((sl1New a0).2.1) ((sl1New a0).2.2)).2.2.2)).length : Nat) : Int) ((k1_sDrawGetOps a0).2.1) ((k1_sDrawGetOps a0).2.2.1) ((k1_sDrawGetOps a0).2.2.2)) && (decide (0 ≤ (0 : Int) ∧ (0 : Int) ≤ ((k2_sDrawGetOps a0).1) ∧ ((k2_sDrawGetOps a0).1) ≤ (((sPutOps ((sl7Draw ((sl1New a0).1) ((sl1New a0).2.1) ((sl1New a0).2.2)).2.2.2)).length : Nat) : Int)))) true)))))
noncomputable abbrev pre_sDrawGetOps : pshsDen P_sDrawGetOps → Bool := fun d => q_sDrawGetOps d.1
theorem runA_sDrawGetOps (a0 : List Int) (hp : ((q_sl1New a0) && ((q_sl7Draw ((sl1New a0).1) ((sl1New a0).2.1) ((sl1New a0).2.2)) && ((q_sPutOps ((sl7Draw ((sl1New a0).1) ((sl1New a0).2.1) ((sl1New a0).2.2)).2.2.2)) && ((q_sl1Below (5 : Int) ((sl7Draw ((sl1New a0).1) ((sl1New a0).2.1) ((sl1New a0).2.2)).1) ((sl7Draw ((sl1New a0).1) ((sl1New a0).2.1) ((sl1New a0).2.2)).2.1) ((sl7Draw ((sl1New a0).1) ((sl1New a0).2.1) ((sl1New a0).2.2)).2.2.1)) && (cond (((k1_sDrawGetOps a0).1) == (0 : Int)) ((q_sl1Below (((sPutOps ((sl7Draw ((sl1New a0).1) ((sl1New a0).2.1) ((sl1New a0).2.2)).2.2.2)).length : Nat) : Int) ((k1_sDrawGetOps a0).2.1) ((k1_sDrawGetOps a0).2.2.1) ((k1_sDrawGetOps a0).2.2.2)) && ((q_sl1Int ((k2_sDrawGetOps a0).2.1) ((k2_sDrawGetOps a0).2.2.1) ((k2_sDrawGetOps a0).2.2.2) [(0 : Int), (1 : Int), (2 : Int), (97 : Int), (128 : Int)]) && (decide (0 ≤ ((k2_sDrawGetOps a0).1) ∧ ((k2_sDrawGetOps a0).1) < (((sPutOps ((sl7Draw ((sl1New a0).1) ((sl1New a0).2.1) ((sl1New a0).2.2)).2.2.2)).length : Nat) : Int))))) (cond (((k1_sDrawGetOps a0).1) == (1 : Int)) ((q_sl1Below (((sPutOps ((sl7Draw ((sl1New a0).1) ((sl1New a0).2.1) ((sl1New a0).2.2)).2.2.2)).length : Nat) : Int) ((k1_sDrawGetOps a0).2.1) ((k1_sDrawGetOps a0).2.2.1) ((k1_sDrawGetOps a0).2.2.2)) && (decide (0 ≤ (0 : Int) ∧ (0 : Int) ≤ ((k2_sDrawGetOps a0).1) ∧ ((k2_sDrawGetOps a0).1) ≤ (((sPutOps ((sl7Draw ((sl1New a0).1) ((sl1New a0).2.1) ((sl1New a0).2.2)).2.2.2)).length : Nat) : Int)))) true)))))) = true) : runP true Try.prog tt S33 QF33 (fun _ _ => none) Try.f55 (argsMk P_sDrawGetOps (a0, ())) = some (g_sDrawGetOps (a0, ())) := by
  refine Eq.trans (b := (cond (q_sl1New a0) (cond (q_sl7Draw ((sl1New a0).1) ((sl1New a0).2.1) ((sl1New a0).2.2)) (cond (q_sPutOps ((sl7Draw ((sl1New a0).1) ((sl1New a0).2.1) ((sl1New a0).2.2)).2.2.2)) (cond (q_sl1Below (5 : Int) ((sl7Draw ((sl1New a0).1) ((sl1New a0).2.1) ((sl1New a0).2.2)).1) ((sl7Draw ((sl1New a0).1) ((sl1New a0).2.1) ((sl1New a0).2.2)).2.1) ((sl7Draw ((sl1New a0).1) ((sl1New a0).2.1) ((sl1New a0).2.2)).2.2.1)) (cond (((k1_sDrawGetOps a0).1) == (0 : Int)) (cond (q_sl1Below (((sPutOps ((sl7Draw ((sl1New a0).1) ((sl1New a0).2.1) ((sl1New a0).2.2)).2.2.2)).length : Nat) : Int) ((k1_sDrawGetOps a0).2.1) ((k1_sDrawGetOps a0).2.2.1) ((k1_sDrawGetOps a0).2.2.2)) (cond (q_sl1Int ((k2_sDrawGetOps a0).2.1) ((k2_sDrawGetOps a0).2.2.1) ((k2_sDrawGetOps a0).2.2.2) [(0 : Int), (1 : Int), (2 : Int), (97 : Int), (128 : Int)]) (cond (decide (0 ≤ ((k2_sDrawGetOps a0).1) ∧ ((k2_sDrawGetOps a0).1) < (((sPutOps ((sl7Draw ((sl1New a0).1) ((sl1New a0).2.1) ((sl1New a0).2.2)).2.2.2)).length : Nat) : Int))) (some (e_sDrawGetOps ((sPutOps ((sl7Draw ((sl1New a0).1) ((sl1New a0).2.1) ((sl1New a0).2.2)).2.2.2)).set (((k2_sDrawGetOps a0).1).toNat) (IntKind.wrap .u8 ((k3_sDrawGetOps a0).1))))) none) none) none) (cond (((k1_sDrawGetOps a0).1) == (1 : Int)) (cond (q_sl1Below (((sPutOps ((sl7Draw ((sl1New a0).1) ((sl1New a0).2.1) ((sl1New a0).2.2)).2.2.2)).length : Nat) : Int) ((k1_sDrawGetOps a0).2.1) ((k1_sDrawGetOps a0).2.2.1) ((k1_sDrawGetOps a0).2.2.2)) (cond (decide (0 ≤ (0 : Int) ∧ (0 : Int) ≤ ((k2_sDrawGetOps a0).1) ∧ ((k2_sDrawGetOps a0).1) ≤ (((sPutOps ((sl7Draw ((sl1New a0).1) ((sl1New a0).2.1) ((sl1New a0).2.2)).2.2.2)).length : Nat) : Int))) (some (e_sDrawGetOps (((sPutOps ((sl7Draw ((sl1New a0).1) ((sl1New a0).2.1) ((sl1New a0).2.2)).2.2.2)).drop ((0 : Int).toNat)).take (((k2_sDrawGetOps a0).1).toNat - (0 : Int).toNat)))) none) none) (some (e_sDrawGetOps (sPutOps ((sl7Draw ((sl1New a0).1) ((sl1New a0).2.1) ((sl1New a0).2.2)).2.2.2)))))) none) none) none) none)) (by kernel_rfl) ?_
  exact (cndT (andL hp) (fun _h => (fun hp => (cndT (andL hp) (fun _h => (fun hp => (cndT (andL hp) (fun _h => (fun hp => (cndT (andL hp) (fun _h => (fun hp => (cndQ (F := fun r => some (e_sDrawGetOps r)) hp (fun hp => (cndT (andL hp) (fun _h => (fun hp => (cndT (andL hp) (fun _h => (fun hp => (cndT hp (fun _h => rfl))) (andR hp)))) (andR hp)))) (fun hp => (cndQ (F := fun r => some (e_sDrawGetOps r)) hp (fun hp => (cndT (andL hp) (fun _h => (fun hp => (cndT hp (fun _h => rfl))) (andR hp)))) (fun hp => rfl))))) (andR hp)))) (andR hp)))) (andR hp)))) (andR hp)))
theorem run_sDrawGetOps : ∀ d, pre_sDrawGetOps d = true → runP true Try.prog tt S33 QF33 (fun _ _ => none) Try.f55 (argsMk P_sDrawGetOps d) = some (g_sDrawGetOps d) := fun d hp => runA_sDrawGetOps d.1 hp
theorem c_sDrawGetOps : PContract Try.prog 55 (sumOf P_sDrawGetOps pre_sDrawGetOps g_sDrawGetOps) := PContract.of_data true G33 (fn := Try.f55) (by kernel_rfl) (L := fun _ _ => none) (by rw [show loopsIn 0 (bodyOf Try.f55) = [] by kernel_rfl]; simp) P_sDrawGetOps pre_sDrawGetOps g_sDrawGetOps run_sDrawGetOps
noncomputable def S34 : Tab := Tab.add S33 55 (lift (sumOf P_sDrawGetOps pre_sDrawGetOps g_sDrawGetOps))
noncomputable def QF34 : FuncId → Bool := qadd QF33 55
theorem G34 : Good Try.prog tt S34 QF34 := G33.addQ c_sDrawGetOps ⟨Try.f55, by kernel_rfl, by kernel_rfl, by kernel_rfl⟩ (fun _ => rfl)


end Go.Proofs.Ytoddiofedjnapaa.Eng
