/- What the functions that FnExactAnswer reaches compute, and that it answers true. -/
import Derived.Test.YtapikgcgahomlaaT
import Derived.Test.YtapikgcgahomlaaRows
import Derived.Test.YtapikgcgahomlaaE39
import Derived.Shelf.Sort.Plain
import Derived.Shelf.Slices.In.SortNone
import Derived.Shelf.Slices.CompactI
namespace Go.Proofs.Ytapikgcgahomlaa.Eng
open Go Go.RowKit
set_option linter.unusedSimpArgs false
set_option linter.unusedVariables false
set_option maxRecDepth 10000
noncomputable def S0 : Tab := fun _ => none
noncomputable def QF0 : FuncId → Bool := fun _ => false
theorem G0 : Good Try.prog tt S0 QF0 := Good.start tt_ok (by kernel_rfl)
/-! Plain laws: order of bytes, keys, ops. -/
theorem bytesLess_irrefl : ∀ a : List UInt8, Op.bytesLess a a = false := by
  intro a
  induction a with
  | nil => rfl
  | cons x a ih => simp only [Op.bytesLess, ih, Bool.and_false, Bool.or_false, decide_eq_false_iff_not]; exact UInt8.lt_irrefl x
theorem bytesLess_ge : ∀ a b : List UInt8, (!(Op.bytesLess a b)) = (Op.bytesLess b a || b == a) := by
  intro a
  induction a with
  | nil => intro b; cases b <;> simp [Op.bytesLess]
  | cons x a ih =>
    intro b
    cases b with
    | nil => simp [Op.bytesLess]
    | cons y b =>
      simp only [Op.bytesLess]
      by_cases h1 : x < y
      · have h2 : ¬ y < x := fun h => UInt8.lt_irrefl _ (UInt8.lt_trans h1 h)
        have h3 : (y == x) = false := by rw [beq_eq_false_iff_ne]; intro h; subst h; exact h2 h1
        have h4 : (y :: b == x :: a) = false := by rw [List.cons_beq_cons, h3, Bool.false_and]
        simp [h1, h2, h3, h4]
      · by_cases h5 : x = y
        · subst h5
          have h6 : (x :: b == x :: a) = (b == a) := by rw [List.cons_beq_cons]; simp
          have := ih b
          simp only [h1, decide_false, Bool.false_or, beq_self_eq_true, Bool.true_and, h6, this]
        · have h7 : y < x := by
            rcases Nat.lt_trichotomy x.toNat y.toNat with h | h | h
            · exact absurd (UInt8.lt_iff_toNat_lt.2 h) h1
            · exact absurd (UInt8.toNat_inj.1 h) h5
            · exact UInt8.lt_iff_toNat_lt.2 h
          have h8 : (x == y) = false := by rw [beq_eq_false_iff_ne]; exact h5
          simp [h1, h7, h8]
theorem allF_congr {p q : Nat → Bool} : ∀ k i, (∀ j, i ≤ j → j < i + k → p j = q j) → allF p k i = allF q k i := by
  intro k
  induction k with
  | zero => intro i h; rfl
  | succ k ih => intro i h; simp only [allF]; rw [h i (Nat.le_refl _) (by omega), ih (i + 1) (fun j h1 h2 => h j (by omega) (by omega))]
theorem allF_same {p : Nat → Bool} (k i : Nat) (h : ∀ j, i ≤ j → j < i + k → p j = true) : allF p k i = true := (allF_true k i).2 h
theorem szN_all {f : Nat → Int → Int} {Q : Nat → Prop} {M : Int} : ∀ (k i : Nat) (b : Int), (∀ j b, i ≤ j → j < i + k → 0 ≤ b → b ≤ M → 0 ≤ f j b → Q j ∧ f j b ≤ b) → 0 ≤ b → b ≤ M → isInl (szN f k i b) = true →
    (∀ j, i ≤ j → j < i + k → Q j) ∧ 0 ≤ getInl (-1) (szN f k i b) ∧ getInl (-1) (szN f k i b) ≤ b := by
  intro k
  induction k with
  | zero => intro i b hf h1 h2 h3; exact ⟨fun j hj hk => by omega, h1, Int.le_refl _⟩
  | succ k ih =>
    intro i b hf h1 h2 h3
    have e : szN f (k + 1) i b = cond (decide (f i b < 0)) (.inr ()) (szN f k (i + 1) (f i b)) := by
      simp only [szN, loopN]
      cases decide (f i b < 0) <;> rfl
    rw [e] at h3 ⊢
    cases hd : decide (f i b < 0) with
    | true => rw [hd] at h3; cases h3
    | false =>
      rw [hd] at h3
      simp only [cond_false] at h3 ⊢
      have h0 : 0 ≤ f i b := by have := of_decide_eq_false hd; omega
      obtain ⟨q1, q2⟩ := hf i b (Nat.le_refl _) (by omega) h1 h2 h0
      obtain ⟨r1, r2, r3⟩ := ih (i + 1) (f i b) (fun j b hj hk => hf j b (by omega) (by omega)) h0 (by omega) h3
      refine ⟨fun j hj hk => ?_, r2, by omega⟩
      by_cases ej : j = i
      · exact ej ▸ q1
      · exact r1 j (by omega) (by omega)
noncomputable abbrev OpT : Type := Int × ByteArray × ByteArray
noncomputable def dOp : Int × ByteArray × ByteArray := ((0 : Int), ((⟨#[]⟩ : ByteArray), (⟨#[]⟩ : ByteArray)))
noncomputable def okOp (o : Int × ByteArray × ByteArray) : Bool := okS o.2.1 && okS o.2.2
noncomputable def okOps (l : List (Int × ByteArray × ByteArray)) : Bool := okL l && l.all okOp
theorem okOps_at {l : List (Int × ByteArray × ByteArray)} (h : okOps l = true) (i : Nat) (hi : i < l.length) : okS (l.getD i dOp).2.1 = true ∧ okS (l.getD i dOp).2.2 = true := by
  simp only [okOps, Bool.and_eq_true, List.all_eq_true] at h
  have := h.2 (l.getD i dOp) (by simp [List.getD_eq_getElem?_getD, hi])
  simpa [okOp] using this
theorem okOps_len {l : List (Int × ByteArray × ByteArray)} (h : okOps l = true) : l.length ≤ 1048576 := by
  simp only [okOps, Bool.and_eq_true] at h
  exact okL_le h.1
noncomputable def bigS (s : ByteArray) : Bool := decide (s.size ≤ 9223372036854775807)
noncomputable def bigOps (l : List (Int × ByteArray × ByteArray)) : Bool := decide (l.length ≤ 9223372036854775807) && l.all (fun o => bigS o.2.1 && bigS o.2.2)
theorem bigOps_at {l : List (Int × ByteArray × ByteArray)} (h : bigOps l = true) (i : Nat) (hi : i < l.length) : bigS (l.getD i dOp).2.1 = true ∧ bigS (l.getD i dOp).2.2 = true := by
  simp only [bigOps, Bool.and_eq_true, List.all_eq_true] at h
  exact h.2 (l.getD i dOp) (by simp [List.getD_eq_getElem?_getD, hi])
theorem okOps_of {l : List (Int × ByteArray × ByteArray)} (h1 : l.length ≤ 1048576) (h2 : ∀ i, i < l.length → okS (l.getD i dOp).2.1 = true ∧ okS (l.getD i dOp).2.2 = true) : okOps l = true := by
  simp only [okOps, okL, Bool.and_eq_true, decide_eq_true_eq, List.all_eq_true]
  refine ⟨h1, fun o ho => ?_⟩
  obtain ⟨i, hi, rfl⟩ := List.getElem_of_mem ho
  have := h2 i hi
  simp only [List.getD_eq_getElem?_getD, List.getElem?_eq_getElem hi, Option.getD_some] at this
  simp [okOp, this.1, this.2]
theorem ba_beq (a b : ByteArray) : (a.toList == b.toList) = decide (a = b) := by
  rw [ByteArray.toList_eq, ByteArray.toList_eq]
  by_cases h : a = b
  · subst h; simp
  · rw [decide_eq_false h, beq_eq_false_iff_ne]
    intro e
    exact h (by cases a; cases b; simp at e; rw [e])
theorem bigOps_len {l : List (Int × ByteArray × ByteArray)} (h : bigOps l = true) : l.length ≤ 9223372036854775807 := by
  simp only [bigOps, Bool.and_eq_true, decide_eq_true_eq] at h; exact h.1
theorem okOps_okL {l : List (Int × ByteArray × ByteArray)} (h : okOps l = true) : okL l = true := by
  simp only [okOps, Bool.and_eq_true] at h; exact h.1
theorem bigOps_of {l : List (Int × ByteArray × ByteArray)} (h : bigT (.sl (.pair (.int .i64) (.pair .str .str))) l = true) : bigOps l = true := by
  have h : (decide (l.length ≤ maxLen) && l.all fun o => (Lit.int .i64 o.1).wf && (decide (o.2.1.size ≤ maxLen) && decide (o.2.2.size ≤ maxLen))) = true := h
  have hm : maxLen = 9223372036854775807 := by decide
  rw [hm] at h
  simp only [Bool.and_eq_true, decide_eq_true_eq, List.all_eq_true] at h
  simp only [bigOps, bigS, Bool.and_eq_true, decide_eq_true_eq, List.all_eq_true]
  exact ⟨h.1, fun o ho => (h.2 o ho).2⟩
theorem bigRec_ops {k t : Int} {l : List (Int × ByteArray × ByteArray)} (h : bigT (.pair (.int .i64) (.pair (.int .i64) (.sl (.pair (.int .i64) (.pair .str .str))))) (k, (t, l)) = true) : bigOps l = true := by
  have hb : ((Lit.int .i64 k).wf && ((Lit.int .i64 t).wf && bigT (.sl (.pair (.int .i64) (.pair .str .str))) l)) = true := h
  rw [Bool.and_eq_true, Bool.and_eq_true] at hb
  exact bigOps_of hb.2.2
/-- The high groups of a number, and what is left. -/
noncomputable def hiF (g : Int → Int) : Nat → Int → List Int × Int
  | 0, x => ([], x)
  | k + 1, x => cond (decide (x > 127)) (g x :: (hiF g k (Int.fdiv x (2 ^ 7))).1, (hiF g k (Int.fdiv x (2 ^ 7))).2) ([], x)
theorem fdiv128 (x : Int) : Int.fdiv x (2 ^ 7) = x / 128 := by
  rw [show (2 : Int) ^ 7 = 128 from rfl, Int.fdiv_eq_ediv_of_nonneg _ (by decide)]
theorem hiF_small (g : Int → Int) (k : Nat) : ∀ x : Int, 0 ≤ x → x < 128 ^ (k + 1) → 0 ≤ (hiF g k x).2 ∧ (hiF g k x).2 ≤ 127 := by
  induction k with
  | zero => intro x h0 h1; simp only [hiF]; exact ⟨h0, by rw [show (128 : Int) ^ (0 + 1) = 128 from rfl] at h1; omega⟩
  | succ k ih =>
    intro x h0 h1
    simp only [hiF]
    by_cases hx : x > 127
    · simp only [decide_eq_true hx, cond_true, fdiv128]
      rw [Int.pow_succ] at h1
      exact ih (x / 128) (by omega) (by omega)
    · simp only [decide_eq_false hx, cond_false]
      exact ⟨h0, by omega⟩
theorem hiF_len (g : Int → Int) (k : Nat) : ∀ x : Int, (hiF g k x).1.length ≤ k := by
  induction k with
  | zero => intro x; simp [hiF]
  | succ k ih =>
    intro x
    simp only [hiF]
    cases decide (x > 127) with
    | true => simp; exact ih _
    | false => simp
noncomputable def gNum (x : Int) : Int := IntKind.wrap .u8 (ior .i64 (iand .i64 x (127 : Int)) (128 : Int))
noncomputable def gNum' (x : Int) : Int := IntKind.wrap .u8 (ior .i64 (128 : Int) (iand .i64 x (127 : Int)))
theorem gNum_same : gNum' = gNum := by
  funext x
  simp only [gNum, gNum', ior]
  rw [BitVec.or_comm]
theorem nX_is : ∃ f : Int → List Int × Int, ∀ x, f x = hiF gNum 4 x := ⟨_, fun _ => rfl⟩
/-- The same, not to be unfolded. -/
noncomputable def nX : Int → List Int × Int := Classical.choose nX_is
theorem nX_eq (x : Int) : nX x = hiF gNum 4 x := Classical.choose_spec nX_is x
theorem nX_eq' (x : Int) : nX x = hiF gNum' 4 x := by rw [gNum_same]; exact nX_eq x
theorem nX_len (x : Int) : (nX x).1.length ≤ 4 := by rw [nX_eq]; exact hiF_len gNum 4 x
/-- The bytes of a number. -/
noncomputable def numB (x : Int) : List Int := (nX x).1 ++ [IntKind.wrap .u8 (nX x).2]
theorem numB_len (x : Int) : (numB x).length ≤ 5 := by
  have := nX_len x
  simp [numB]; omega
noncomputable def clampN (n : Int) : Int := if n > 1000000000 then 1000000000 else if n < 0 then 0 else n
noncomputable def textB (s : ByteArray) : List Int := numB (s.size : Int) ++ strInts s
noncomputable def opB (o : Int × ByteArray × ByteArray) : List Int := numB (clampN o.1) ++ (textB o.2.1 ++ textB o.2.2)
theorem clampN_of {n : Int} (h0 : 0 ≤ n) (h1 : n ≤ 1000000000) : clampN n = n := by simp only [clampN]; split <;> (try split) <;> omega
theorem strInts_len (s : ByteArray) : (strInts s).length = s.size := by rw [strInts, List.length_map, Array.length_toList]; rfl
theorem textB_len (s : ByteArray) : (textB s).length ≤ 5 + s.size := by
  have := numB_len (s.size : Int)
  simp [textB, strInts_len]; omega

noncomputable def clampI (x : Int) : Int := if (if (1000000000 : Int) < x then (1000000000 : Int) else x) > (0 : Int) then (if (1000000000 : Int) < x then (1000000000 : Int) else x) else (0 : Int)
theorem clampI_eq (x : Int) : clampI x = clampN x := by
  simp only [clampI, clampN]
  split <;> split <;> (try split) <;> omega
theorem clampN_range (x : Int) : 0 ≤ clampN x ∧ clampN x ≤ 1000000000 := by
  simp only [clampN]
  split <;> (try split) <;> omega
theorem clampI_range (x : Int) : 0 ≤ clampI x ∧ clampI x ≤ 1000000000 := by rw [clampI_eq]; exact clampN_range x

noncomputable def digB (x : Int) : ByteArray := (⟨([IntKind.wrap .u8 (IntKind.wrap .i64 ((48 : Int) + (Int.tmod x (10 : Int))))].map fun n => UInt8.ofNat n.toNat).toArray⟩ : ByteArray)
theorem digB_size (x : Int) : (digB x).size = 1 := rfl
/-- A number's digits. -/
noncomputable def txtN : Nat → Int → ByteArray → ByteArray
  | 0, _, s => s
  | k + 1, x, s => cond (decide (x > 0)) (txtN k (IntKind.wrap .i64 (Int.tdiv x (10 : Int))) (digB x ++ s)) s
theorem txtN_len : ∀ (k : Nat) (x : Int) (s : ByteArray), (txtN k x s).size ≤ k + s.size := by
  intro k
  induction k with
  | zero => intro x s; simp [txtN]
  | succ k ih =>
    intro x s
    simp only [txtN]
    cases decide (x > 0) with
    | true =>
      have := ih (IntKind.wrap .i64 (Int.tdiv x (10 : Int))) (digB x ++ s)
      rw [ByteArray.size_append, digB_size] at this
      simp only [cond_true]; omega
    | false => simp only [cond_false]; omega
theorem foldN_app {α : Type} (f : α → List Int) (d : α) (l : List α) (g : Nat → List Int → List Int) (hg : ∀ i h, i < l.length → g i h = h ++ f (l.getD i d)) : ∀ k i h, i + k = l.length → foldN g k i h = h ++ ((l.drop i).map f).flatten := by
  intro k
  induction k with
  | zero =>
    intro i h hi
    have : l.drop i = [] := List.drop_eq_nil_of_le (by omega)
    simp [foldN, this]
  | succ k ih =>
    intro i h hi
    have hlt : i < l.length := by omega
    simp only [foldN]
    rw [ih (i + 1) (g i h) (by omega), hg i h hlt, List.append_assoc, show l.drop i = l[i] :: l.drop (i + 1) from List.drop_eq_getElem_cons hlt, List.map_cons, List.flatten_cons, show l.getD i d = l[i] from by simp [List.getD_eq_getElem?_getD, hlt]]
theorem opB_len (o : Int × ByteArray × ByteArray) : (opB o).length ≤ 15 + o.2.1.size + o.2.2.size := by
  have h1 := numB_len (clampN o.1)
  have h2 := textB_len o.2.1
  have h3 := textB_len o.2.2
  simp only [opB, List.length_append]; omega
theorem flat_len {M : Nat} : ∀ l : List (Int × ByteArray × ByteArray), (∀ o ∈ l, (opB o).length ≤ M) → (l.map opB).flatten.length ≤ M * l.length := by
  intro l
  induction l with
  | nil => intro _; simp
  | cons o l ih =>
    intro h
    have h1 := h o (by simp)
    have h2 := ih fun x hx => h x (by simp [hx])
    simp only [List.map_cons, List.flatten_cons, List.length_append, List.length_cons]
    rw [Nat.mul_add]; omega
theorem okOps_mem {l : List (Int × ByteArray × ByteArray)} (h : okOps l = true) : ∀ o ∈ l, o.2.1.size ≤ 1048576 ∧ o.2.2.size ≤ 1048576 := by
  intro o ho
  simp only [okOps, Bool.and_eq_true, List.all_eq_true] at h
  have := h.2 o ho
  simpa [okOp, okS] using this
/-! The library's sort and compacting, found in this translation. -/
noncomputable def laysSort_ren : Go.Shelf.Ren := ⟨fun | 189 => 70 | 125 => 110 | 257 => 109 | 128 => 138 | 129 => 139 | 294 => 129 | 295 => 130 | 296 => 131 | 297 => 132 | 298 => 133 | 299 => 134 | 216 => 135 | 300 => 136 | 301 => 137 | 328 => 150 | 329 => 151 | 330 => 152 | 331 => 153 | 332 => 154 | 215 => 155 | 343 => 157 | n => n, fun | 28 => 46 | 3 => 3 | 46 => 128 | 0 => 0 | 51 => 140 | 53 => 152 | 4 => 4 | 183 => 143 | 182 => 142 | 131 => 148 | 5 => 5 | 9 => 9 | 218 => 162 | 222 => 166 | 228 => 168 | 229 => 169 | n => n, fun n => n⟩
theorem laysSort : Go.Proofs.Lays.n189 Try.prog laysSort_ren where
  mixed := by kernel_rfl
  f125 := Try.func110.trans (congrArg some (by kernel_rfl))
  f128 := Try.func138.trans (congrArg some (by kernel_rfl))
  f129 := Try.func139.trans (congrArg some (by kernel_rfl))
  f189 := Try.func70.trans (congrArg some (by kernel_rfl))
  f215 := Try.func155.trans (congrArg some (by kernel_rfl))
  f216 := Try.func135.trans (congrArg some (by kernel_rfl))
  f257 := Try.func109.trans (congrArg some (by kernel_rfl))
  f294 := Try.func129.trans (congrArg some (by kernel_rfl))
  f295 := Try.func130.trans (congrArg some (by kernel_rfl))
  f296 := Try.func131.trans (congrArg some (by kernel_rfl))
  f297 := Try.func132.trans (congrArg some (by kernel_rfl))
  f298 := Try.func133.trans (congrArg some (by kernel_rfl))
  f299 := Try.func134.trans (congrArg some (by kernel_rfl))
  f300 := Try.func136.trans (congrArg some (by kernel_rfl))
  f301 := Try.func137.trans (congrArg some (by kernel_rfl))
  f328 := Try.func150.trans (congrArg some (by kernel_rfl))
  f329 := Try.func151.trans (congrArg some (by kernel_rfl))
  f330 := Try.func152.trans (congrArg some (by kernel_rfl))
  f331 := Try.func153.trans (congrArg some (by kernel_rfl))
  f332 := Try.func154.trans (congrArg some (by kernel_rfl))
  f343 := Try.func157.trans (congrArg some (by kernel_rfl))
  t0 := Try.underlying0
  a0 := Try.isAgg0
  z0 := Try.sizeOf0
  v0 := Try.zeroValue0
  t3 := Try.underlying3
  a3 := Try.isAgg3
  z3 := Try.sizeOf3
  v3 := Try.zeroValue3
  t4 := Try.underlying4
  a4 := Try.isAgg4
  z4 := Try.sizeOf4
  v4 := Try.zeroValue4
  t5 := Try.underlying5
  a5 := Try.isAgg5
  z5 := Try.sizeOf5
  v5 := Try.zeroValue5
  t9 := Try.underlying9
  a9 := Try.isAgg9
  z9 := Try.sizeOf9
  v9 := Try.zeroValue9
  t28 := Try.underlying46
  a28 := Try.isAgg46
  z28 := Try.sizeOf46
  v28 := Try.zeroValue46
  t46 := Try.underlying128
  a46 := Try.isAgg128
  z46 := Try.sizeOf128
  v46 := Try.zeroValue128
  t51 := Try.underlying140
  a51 := Try.isAgg140
  z51 := Try.sizeOf140
  v51 := Try.zeroValue140
  t53 := Try.underlying152
  a53 := Try.isAgg152
  z53 := Try.sizeOf152
  v53 := Try.zeroValue152
  t131 := Try.underlying148
  a131 := Try.isAgg148
  z131 := Try.sizeOf148
  v131 := Try.zeroValue148
  t182 := Try.underlying142
  a182 := Try.isAgg142
  z182 := Try.sizeOf142
  v182 := Try.zeroValue142
  t183 := Try.underlying143
  a183 := Try.isAgg143
  z183 := Try.sizeOf143
  v183 := Try.zeroValue143
  t218 := Try.underlying162
  a218 := Try.isAgg162
  z218 := Try.sizeOf162
  v218 := Try.zeroValue162
  t222 := Try.underlying166
  a222 := Try.isAgg166
  z222 := Try.sizeOf166
  v222 := Try.zeroValue166
  t228 := Try.underlying168
  a228 := Try.isAgg168
  z228 := Try.sizeOf168
  v228 := Try.zeroValue168
  t229 := Try.underlying169
  a229 := Try.isAgg169
  z229 := Try.sizeOf169
  v229 := Try.zeroValue169
noncomputable def laysCompact_ren : Go.Shelf.Ren := ⟨fun | 20 => 72 | n => n, fun | 22 => 46 | 3 => 3 | 4 => 4 | 0 => 0 | n => n, fun n => n⟩
theorem laysCompact : Go.Proofs.Lays2.n20 Try.prog laysCompact_ren where
  mixed := by kernel_rfl
  f20 := Try.func72.trans (congrArg some (by kernel_rfl))
  t0 := Try.underlying0
  a0 := Try.isAgg0
  z0 := Try.sizeOf0
  v0 := Try.zeroValue0
  t3 := Try.underlying3
  a3 := Try.isAgg3
  z3 := Try.sizeOf3
  v3 := Try.zeroValue3
  t4 := Try.underlying4
  a4 := Try.isAgg4
  z4 := Try.sizeOf4
  v4 := Try.zeroValue4
  t22 := Try.underlying46
  a22 := Try.isAgg46
  z22 := Try.sizeOf46
  v22 := Try.zeroValue46
  i3 := by kernel_rfl
theorem c_sortInt : MContract Try.prog 70 (win winIds sortSum) := (MContract.sortInt (Go.Proofs.Any.slices_Sort_int_none laysSort) (Go.Proofs.Any.slices_Sort_int laysSort)).win winIds
theorem c_compactInt : MContract Try.prog 72 (win winIds compactSum) := (MContract.compactInt (Go.Proofs.Any.slices_Compact_int_empty laysCompact) (Go.Proofs.Any.slices_Compact_int laysCompact)).win winIds
noncomputable def q_sortL (l : List Int) : Bool := decide (l.length < 4611686018427387904)
noncomputable def compactP (l : List Int) : Nat × List Int := ((Lib.compact l).length, Lib.compact l ++ List.replicate (l.length - (Lib.compact l).length) 0)

/-! 143 loop.example/g00244/laws.szOp -/
noncomputable abbrev P_lszOp : List PSh := [.agg [(.int .i64), .str, .str], .t (.int .i64)]
noncomputable def lszOp (a0 : Int) (a1 : ByteArray) (a2 : ByteArray) (a3 : Int) : Int := (cond (decide ((IntKind.wrap .i64 (a3 - ((a1.size : Nat) : Int))) < (0 : Int))) (-1 : Int) (cond (decide ((IntKind.wrap .i64 ((IntKind.wrap .i64 (a3 - ((a1.size : Nat) : Int))) - ((a2.size : Nat) : Int))) < (0 : Int))) (-1 : Int) (IntKind.wrap .i64 ((IntKind.wrap .i64 (a3 - ((a1.size : Nat) : Int))) - ((a2.size : Nat) : Int)))))
noncomputable abbrev e_lszOp (r : Int) : AV × List AObj := ((.t true (.int .i64) r), [])
noncomputable abbrev g_lszOp : pshsDen P_lszOp → AV × List AObj := fun d => e_lszOp (lszOp d.1.1 d.1.2.1 d.1.2.2.1 d.2.1)
noncomputable abbrev pre_lszOp : pshsDen P_lszOp → Bool := fun d => true
theorem runA_lszOp (a0 : Int) (a1 : ByteArray) (a2 : ByteArray) (a3 : Int) : runP true Try.prog tt S0 QF0 (fun _ _ => none) Try.f143 (argsMk P_lszOp ((a0, (a1, (a2, ()))), (a3, ()))) = some (g_lszOp ((a0, (a1, (a2, ()))), (a3, ()))) := by
  refine Eq.trans (b := (cond (decide ((IntKind.wrap .i64 (a3 - ((a1.size : Nat) : Int))) < (0 : Int))) (some (e_lszOp (-1 : Int))) (cond (decide ((IntKind.wrap .i64 ((IntKind.wrap .i64 (a3 - ((a1.size : Nat) : Int))) - ((a2.size : Nat) : Int))) < (0 : Int))) (some (e_lszOp (-1 : Int))) (some (e_lszOp (IntKind.wrap .i64 ((IntKind.wrap .i64 (a3 - ((a1.size : Nat) : Int))) - ((a2.size : Nat) : Int)))))))) (by kernel_rfl) ?_
  exact (cnd (F := fun r => some (e_lszOp r)) (fun _h => rfl) (fun _h => (cnd (F := fun r => some (e_lszOp r)) (fun _h => rfl) (fun _h => rfl))))
theorem run_lszOp : ∀ d, pre_lszOp d = true → runP true Try.prog tt S0 QF0 (fun _ _ => none) Try.f143 (argsMk P_lszOp d) = some (g_lszOp d) := fun d hp => runA_lszOp d.1.1 d.1.2.1 d.1.2.2.1 d.2.1
theorem c_lszOp : PContract Try.prog 143 (sumOf P_lszOp pre_lszOp g_lszOp) := PContract.of_data true G0 (fn := Try.f143) (by kernel_rfl) (L := fun _ _ => none) (by rw [show loopsIn 0 (bodyOf Try.f143) = [] by kernel_rfl]; simp) P_lszOp pre_lszOp g_lszOp run_lszOp
noncomputable def S1 : Tab := Tab.add S0 143 (lift (sumOf P_lszOp pre_lszOp g_lszOp))
noncomputable def QF1 : FuncId → Bool := qadd QF0 143
theorem G1 : Good Try.prog tt S1 QF1 := G0.addQ c_lszOp ⟨Try.f143, by kernel_rfl, by kernel_rfl, by kernel_rfl⟩ (fun _ => rfl)

/-! 118 loop.example/g00244/laws.szOpS -/
noncomputable def f_lszOpS_0 (x0 : List (Int × ByteArray × ByteArray)) (i : Nat) (b : Int) : Int := (lszOp ((x0.getD i ((0 : Int), ((⟨#[]⟩ : ByteArray), (⟨#[]⟩ : ByteArray)))).1) (((x0.getD i ((0 : Int), ((⟨#[]⟩ : ByteArray), (⟨#[]⟩ : ByteArray)))).2).1) (((x0.getD i ((0 : Int), ((⟨#[]⟩ : ByteArray), (⟨#[]⟩ : ByteArray)))).2).2) b)
noncomputable abbrev P_lszOpS : List PSh := [.t (.sl (.pair (.int .i64) (.pair .str .str))), .t (.int .i64)]
noncomputable abbrev S_lszOpS_0 : SS := ⟨[.t false (.sl (.pair (.int .i64) (.pair .str .str))), .t true (.int .i64), .junk, .junk, .junk, .t true (.int .i64), .junk, .junk, .junk, .junk, .junk, .junk, .junk, .junk, .junk, .junk, .junk, .junk, .junk, .junk, .junk, .junk, .junk, .junk, .junk, .junk, .junk], []⟩
noncomputable abbrev E_lszOpS_0_0 : SS := ⟨[.junk, .junk, .junk, .junk, .t true (.int .i64), .junk, .junk, .junk, .junk, .junk, .junk, .junk, .junk, .junk, .junk, .junk, .junk, .junk, .junk, .junk, .junk, .junk, .junk, .junk, .junk, .junk, .junk], []⟩
noncomputable abbrev E_lszOpS_0_1 : SS := ⟨[.junk, .t true (.int .i64), .junk, .junk, .junk, .junk, .junk, .junk, .junk, .junk, .junk, .junk, .junk, .junk, .junk, .junk, .junk, .junk, .junk, .junk, .junk, .junk, .junk, .junk, .junk, .junk, .junk], []⟩
noncomputable def st_lszOpS_0 (x0 : List (Int × ByteArray × ByteArray)) (x1 : Int) (x5 : Int) : RT S_lszOpS_0.den := (.br (decide (x5 < ((x0.length : Nat) : Int))) (.br (decide (0 ≤ x5 ∧ x5 < ((x0.length : Nat) : Int))) (.br (decide ((lszOp ((x0.getD x5.toNat ((0 : Int), ((⟨#[]⟩ : ByteArray), (⟨#[]⟩ : ByteArray)))).1) (((x0.getD x5.toNat ((0 : Int), ((⟨#[]⟩ : ByteArray), (⟨#[]⟩ : ByteArray)))).2).1) (((x0.getD x5.toNat ((0 : Int), ((⟨#[]⟩ : ByteArray), (⟨#[]⟩ : ByteArray)))).2).2) x1) < (0 : Int))) (.done .ret E_lszOpS_0_0 (((), (), (), (), (-1 : Int), (), (), (), (), (), (), (), (), (), (), (), (), (), (), (), (), (), (), (), (), (), (), ()), ())) (.next ((x0, (lszOp ((x0.getD x5.toNat ((0 : Int), ((⟨#[]⟩ : ByteArray), (⟨#[]⟩ : ByteArray)))).1) (((x0.getD x5.toNat ((0 : Int), ((⟨#[]⟩ : ByteArray), (⟨#[]⟩ : ByteArray)))).2).1) (((x0.getD x5.toNat ((0 : Int), ((⟨#[]⟩ : ByteArray), (⟨#[]⟩ : ByteArray)))).2).2) x1), (), (), (), IntKind.wrap .i64 (x5 + (1 : Int)), (), (), (), (), (), (), (), (), (), (), (), (), (), (), (), (), (), (), (), (), (), ()), ()))) .fail) (.done (.exit 0) E_lszOpS_0_1 (((), x1, (), (), (), (), (), (), (), (), (), (), (), (), (), (), (), (), (), (), (), (), (), (), (), (), (), ()), ())))
noncomputable def T_lszOpS_0 (x0 : List (Int × ByteArray × ByteArray)) (x1 : Int) (x5 : Int) : CT := (.br (decide (0 ≤ x5) && okL x0) (.br (isInl (szN (f_lszOpS_0 x0) (x0.length - x5.toNat) x5.toNat x1)) (.done (.exit 0) E_lszOpS_0_1 (((), (getInl (-1) (szN (f_lszOpS_0 x0) (x0.length - x5.toNat) x5.toNat x1)), (), (), (), (), (), (), (), (), (), (), (), (), (), (), (), (), (), (), (), (), (), (), (), (), (), ()), ())) (.done .ret E_lszOpS_0_0 (((), (), (), (), (-1 : Int), (), (), (), (), (), (), (), (), (), (), (), (), (), (), (), (), (), (), (), (), (), (), ()), ()))) .fail)
noncomputable abbrev sp_lszOpS_0 : S_lszOpS_0.den → RT S_lszOpS_0.den := fun d => st_lszOpS_0 d.1.1 d.1.2.1 d.1.2.2.2.2.2.1
noncomputable abbrev pk_lszOpS_0 (x0 : List (Int × ByteArray × ByteArray)) (x1 : Int) (x5 : Int) : S_lszOpS_0.den := ((x0, x1, (), (), (), x5, (), (), (), (), (), (), (), (), (), (), (), (), (), (), (), (), (), (), (), (), (), ()), ())
noncomputable def body_lszOpS_0 : Code := ((loopsIn 0 (bodyOf Try.f118)).getD 0 (0, .skip)).2
theorem R_lszOpS_0 (x0 : List (Int × ByteArray × ByteArray)) (x1 : Int) (x5 : Int) : (T_lszOpS_0 x0 x1 x5).val (D := S_lszOpS_0.den) = .fail ∨ Runs sp_lszOpS_0 (pk_lszOpS_0 x0 x1 x5) (T_lszOpS_0 x0 x1 x5).val := by
  cases hc : (decide (0 ≤ x5) && okL x0) with
  | false => left; simp only [T_lszOpS_0, CT.val, hc, cond_false]
  | true =>
    right
    simp only [T_lszOpS_0, CT.val, hc, cond_true]
    simp only [Bool.and_eq_true, decide_eq_true_eq] at hc
    obtain ⟨i, rfl⟩ := Int.eq_ofNat_of_zero_le hc.1
    have hs := okL_le hc.2
    simp only [Int.toNat_natCast]
    have h := Runs.loopN (step := sp_lszOpS_0) (fun j b => pk_lszOpS_0 x0 b (j : Int)) (fun _ _ => True) (x0.length) (fun i b => cond (decide (f_lszOpS_0 x0 i b < 0)) (.inr ()) (.inl (f_lszOpS_0 x0 i b)))
      (fin := fun b => ((.done (.exit 0) E_lszOpS_0_1 (((), b, (), (), (), (), (), (), (), (), (), (), (), (), (), (), (), (), (), (), (), (), (), (), (), (), (), ()), ())) : CT).val) (bad := fun _ => ((.done .ret E_lszOpS_0_0 (((), (), (), (), (-1 : Int), (), (), (), (), (), (), (), (), (), (), (), (), (), (), (), (), (), (), (), (), (), (), ()), ())) : CT).val)
      (fun i b hi _ => ?_) (fun i b hi _ => ?_) (x0.length - i) i x1 rfl trivial
    · simp only [szN]
      revert h
      cases loopN (fun i b => cond (decide (f_lszOpS_0 x0 i b < 0)) (.inr ()) (.inl (f_lszOpS_0 x0 i b))) (x0.length - i) i x1 with
      | inl b => exact id
      | inr c => exact id
    · 
      have h0a : decide ((i : Int) < ((x0.length : Nat) : Int)) = true := decide_eq_true (by omega)
      have h0b : decide (0 ≤ (i : Int) ∧ (i : Int) < ((x0.length : Nat) : Int)) = true := decide_eq_true (by omega)
      have e : (sp_lszOpS_0 (pk_lszOpS_0 x0 b (i : Int))).val = cond (decide (f_lszOpS_0 x0 i b < 0)) ((.done .ret E_lszOpS_0_0 (((), (), (), (), (-1 : Int), (), (), (), (), (), (), (), (), (), (), (), (), (), (), (), (), (), (), (), (), (), (), ()), ())) : CT).val (.next (pk_lszOpS_0 x0 (f_lszOpS_0 x0 i b) ((i + 1 : Nat) : Int))) := by
        simp only [sp_lszOpS_0, st_lszOpS_0, RT.val, h0a, h0b, cond_true, wrapS i (by omega), Int.toNat_natCast]
        rfl
      cases hr : decide (f_lszOpS_0 x0 i b < 0) with
      | true => exact .inr ⟨(), _, _, _, rfl, by rw [e, hr]; rfl, rfl, by simp⟩
      | false => exact .inl ⟨_, rfl, trivial, by rw [e, hr]; rfl⟩
    · have h1 : decide ((i : Int) < ((x0.length : Nat) : Int)) = false := decide_eq_false (by omega)
      exact ⟨by simp only [sp_lszOpS_0, st_lszOpS_0, RT.val, h1, cond_false]; rfl, _, _, _, rfl, by simp⟩
theorem rd_lszOpS_0 : ∀ d, execC Try.prog tt S1 QF1 (fun _ _ => none) 0 body_lszOpS_0 (S_lszOpS_0.st d 0 []) (fun e s' => some (e, S_lszOpS_0.cutE (kepts [4] [(0, [1])]) e s')) = (sp_lszOpS_0 d).opt 0 [] := by
  intro d
  kernel_rfl
noncomputable abbrev say_lszOpS_0 : St → Option Tree := S_lszOpS_0.say 0 [] [] (fun d => T_lszOpS_0 d.1.1 d.1.2.1 d.1.2.2.2.2.2.1)
theorem lw_lszOpS_0 : LoopWp Try.prog say_lszOpS_0 body_lszOpS_0 := SS.wp G1 (fun _ _ => none) (by rw [show loopsIn 0 body_lszOpS_0 = [] by kernel_rfl]; simp) S_lszOpS_0 0 [] (kepts [4] [(0, [1])]) [] sp_lszOpS_0 rd_lszOpS_0 _ (fun d => R_lszOpS_0 d.1.1 d.1.2.1 d.1.2.2.2.2.2.1)
noncomputable def lszOpS (a0 : List (Int × ByteArray × ByteArray)) (a1 : Int) : Int := (cond (decide ((IntKind.wrap .i64 (a1 - ((a0.length : Nat) : Int))) < (0 : Int))) (-1 : Int) (cond (isInl (szN (f_lszOpS_0 a0) (a0.length - (0 : Int).toNat) (0 : Int).toNat (IntKind.wrap .i64 (a1 - ((a0.length : Nat) : Int))))) (getInl (-1) (szN (f_lszOpS_0 a0) (a0.length - (0 : Int).toNat) (0 : Int).toNat (IntKind.wrap .i64 (a1 - ((a0.length : Nat) : Int))))) (-1 : Int)))
noncomputable abbrev e_lszOpS (r : Int) : AV × List AObj := ((.t true (.int .i64) r), [])
noncomputable abbrev g_lszOpS : pshsDen P_lszOpS → AV × List AObj := fun d => e_lszOpS (lszOpS d.1 d.2.1)
noncomputable def q_lszOpS (a0 : List (Int × ByteArray × ByteArray)) (a1 : Int) : Bool := decide (0 ≤ a1 ∧ a1 ≤ 1048576 ∧ a0.length ≤ 9223372036854775807)
noncomputable abbrev pre_lszOpS : pshsDen P_lszOpS → Bool := fun d => q_lszOpS d.1 d.2.1
theorem runA_lszOpS (a0 : List (Int × ByteArray × ByteArray)) (a1 : Int) (hp : (decide (0 ≤ a1 ∧ a1 ≤ 1048576 ∧ a0.length ≤ 9223372036854775807)) = true) : runP true Try.prog tt S1 QF1 (fun b => match b with | 0 => say_lszOpS_0 | _ => fun _ => none) Try.f118 (argsMk P_lszOpS (a0, (a1, ()))) = some (g_lszOpS (a0, (a1, ()))) := by
  refine Eq.trans (b := (cond (decide ((IntKind.wrap .i64 (a1 - ((a0.length : Nat) : Int))) < (0 : Int))) (some (e_lszOpS (-1 : Int))) (cond (decide (0 ≤ (0 : Int)) && okL a0) (cond (isInl (szN (f_lszOpS_0 a0) (a0.length - (0 : Int).toNat) (0 : Int).toNat (IntKind.wrap .i64 (a1 - ((a0.length : Nat) : Int))))) (some (e_lszOpS (getInl (-1) (szN (f_lszOpS_0 a0) (a0.length - (0 : Int).toNat) (0 : Int).toNat (IntKind.wrap .i64 (a1 - ((a0.length : Nat) : Int))))))) (some (e_lszOpS (-1 : Int)))) none))) (by kernel_rfl) ?_
  exact (cnd (F := fun r => some (e_lszOpS r)) (fun _h => rfl) (fun _h => (cndT (by simp only [decide_eq_true_eq, decide_eq_false_iff_not] at hp _h; have hw := wrap64 (n := a1 - ((a0.length : Nat) : Int)) (by omega) (by omega); rw [hw] at _h; simp [okL]; omega) (fun _h => (cnd (F := fun r => some (e_lszOpS r)) (fun _h => rfl) (fun _h => rfl))))))
theorem run_lszOpS : ∀ d, pre_lszOpS d = true → runP true Try.prog tt S1 QF1 (fun b => match b with | 0 => say_lszOpS_0 | _ => fun _ => none) Try.f118 (argsMk P_lszOpS d) = some (g_lszOpS d) := fun d hp => runA_lszOpS d.1 d.2.1 hp
theorem c_lszOpS : PContract Try.prog 118 (sumOf P_lszOpS pre_lszOpS g_lszOpS) := PContract.of_data true G1 (fn := Try.f118) (by kernel_rfl) (L := fun b => match b with | 0 => say_lszOpS_0 | _ => fun _ => none) (by rw [show loopsIn 0 (bodyOf Try.f118) = [(0, body_lszOpS_0)] by kernel_rfl]; intro p hp; simp only [List.mem_singleton] at hp; subst hp; exact lw_lszOpS_0) P_lszOpS pre_lszOpS g_lszOpS run_lszOpS
noncomputable def S2 : Tab := Tab.add S1 118 (lift (sumOf P_lszOpS pre_lszOpS g_lszOpS))
noncomputable def QF2 : FuncId → Bool := qadd QF1 118
theorem G2 : Good Try.prog tt S2 QF2 := G1.addQ c_lszOpS ⟨Try.f118, by kernel_rfl, by kernel_rfl, by kernel_rfl⟩ (fun _ => rfl)

/-! 119 loop.example/g00244/laws.szIntS -/
noncomputable abbrev P_lszIntS : List PSh := [.t (.sl (.int .i64)), .t (.int .i64)]
noncomputable def lszIntS (a0 : List Int) (a1 : Int) : Int := (cond (decide ((IntKind.wrap .i64 (a1 - ((a0.length : Nat) : Int))) < (0 : Int))) (-1 : Int) (IntKind.wrap .i64 (a1 - ((a0.length : Nat) : Int))))
noncomputable abbrev e_lszIntS (r : Int) : AV × List AObj := ((.t true (.int .i64) r), [])
noncomputable abbrev g_lszIntS : pshsDen P_lszIntS → AV × List AObj := fun d => e_lszIntS (lszIntS d.1 d.2.1)
noncomputable abbrev pre_lszIntS : pshsDen P_lszIntS → Bool := fun d => true
theorem runA_lszIntS (a0 : List Int) (a1 : Int) : runP true Try.prog tt S2 QF2 (fun _ _ => none) Try.f119 (argsMk P_lszIntS (a0, (a1, ()))) = some (g_lszIntS (a0, (a1, ()))) := by
  refine Eq.trans (b := (cond (decide ((IntKind.wrap .i64 (a1 - ((a0.length : Nat) : Int))) < (0 : Int))) (some (e_lszIntS (-1 : Int))) (some (e_lszIntS (IntKind.wrap .i64 (a1 - ((a0.length : Nat) : Int))))))) (by kernel_rfl) ?_
  exact (cnd (F := fun r => some (e_lszIntS r)) (fun _h => rfl) (fun _h => rfl))
theorem run_lszIntS : ∀ d, pre_lszIntS d = true → runP true Try.prog tt S2 QF2 (fun _ _ => none) Try.f119 (argsMk P_lszIntS d) = some (g_lszIntS d) := fun d hp => runA_lszIntS d.1 d.2.1
theorem c_lszIntS : PContract Try.prog 119 (sumOf P_lszIntS pre_lszIntS g_lszIntS) := PContract.of_data true G2 (fn := Try.f119) (by kernel_rfl) (L := fun _ _ => none) (by rw [show loopsIn 0 (bodyOf Try.f119) = [] by kernel_rfl]; simp) P_lszIntS pre_lszIntS g_lszIntS run_lszIntS
noncomputable def S3 : Tab := Tab.add S2 119 (lift (sumOf P_lszIntS pre_lszIntS g_lszIntS))
noncomputable def QF3 : FuncId → Bool := qadd QF2 119
theorem G3 : Good Try.prog tt S3 QF3 := G2.addQ c_lszIntS ⟨Try.f119, by kernel_rfl, by kernel_rfl, by kernel_rfl⟩ (fun _ => rfl)

/-! 85 loop.example/g00244/laws.szJob -/
noncomputable abbrev P_lszJob : List PSh := [.agg [(.int .i64), (.sl (.pair (.int .i64) (.pair .str .str))), (.int .i64), (.sl (.int .i64))], .t (.int .i64)]
noncomputable def lszJob (a0 : Int) (a1 : List (Int × ByteArray × ByteArray)) (a2 : Int) (a3 : List Int) (a4 : Int) : Int := (cond (decide ((lszOpS a1 a4) < (0 : Int))) (-1 : Int) (cond (decide ((lszIntS a3 (lszOpS a1 a4)) < (0 : Int))) (-1 : Int) (lszIntS a3 (lszOpS a1 a4))))
noncomputable abbrev e_lszJob (r : Int) : AV × List AObj := ((.t true (.int .i64) r), [])
noncomputable abbrev g_lszJob : pshsDen P_lszJob → AV × List AObj := fun d => e_lszJob (lszJob d.1.1 d.1.2.1 d.1.2.2.1 d.1.2.2.2.1 d.2.1)
noncomputable def q_lszJob (a0 : Int) (a1 : List (Int × ByteArray × ByteArray)) (a2 : Int) (a3 : List Int) (a4 : Int) : Bool := q_lszOpS a1 a4
noncomputable abbrev pre_lszJob : pshsDen P_lszJob → Bool := fun d => q_lszJob d.1.1 d.1.2.1 d.1.2.2.1 d.1.2.2.2.1 d.2.1
theorem runA_lszJob (a0 : Int) (a1 : List (Int × ByteArray × ByteArray)) (a2 : Int) (a3 : List Int) (a4 : Int) (hp : (q_lszOpS a1 a4) = true) : runP true Try.prog tt S3 QF3 (fun _ _ => none) Try.f85 (argsMk P_lszJob ((a0, (a1, (a2, (a3, ())))), (a4, ()))) = some (g_lszJob ((a0, (a1, (a2, (a3, ())))), (a4, ()))) := by
  refine Eq.trans (b := (cond (q_lszOpS a1 a4) (cond (decide ((lszOpS a1 a4) < (0 : Int))) (some (e_lszJob (-1 : Int))) (cond (decide ((lszIntS a3 (lszOpS a1 a4)) < (0 : Int))) (some (e_lszJob (-1 : Int))) (some (e_lszJob (lszIntS a3 (lszOpS a1 a4)))))) none)) (by kernel_rfl) ?_
  exact (cndT hp (fun _h => (cnd (F := fun r => some (e_lszJob r)) (fun _h => rfl) (fun _h => (cnd (F := fun r => some (e_lszJob r)) (fun _h => rfl) (fun _h => rfl))))))
theorem run_lszJob : ∀ d, pre_lszJob d = true → runP true Try.prog tt S3 QF3 (fun _ _ => none) Try.f85 (argsMk P_lszJob d) = some (g_lszJob d) := fun d hp => runA_lszJob d.1.1 d.1.2.1 d.1.2.2.1 d.1.2.2.2.1 d.2.1 hp
theorem c_lszJob : PContract Try.prog 85 (sumOf P_lszJob pre_lszJob g_lszJob) := PContract.of_data true G3 (fn := Try.f85) (by kernel_rfl) (L := fun _ _ => none) (by rw [show loopsIn 0 (bodyOf Try.f85) = [] by kernel_rfl]; simp) P_lszJob pre_lszJob g_lszJob run_lszJob
noncomputable def S4 : Tab := Tab.add S3 85 (lift (sumOf P_lszJob pre_lszJob g_lszJob))
noncomputable def QF4 : FuncId → Bool := qadd QF3 85
theorem G4 : Good Try.prog tt S4 QF4 := G3.addQ c_lszJob ⟨Try.f85, by kernel_rfl, by kernel_rfl, by kernel_rfl⟩ (fun _ => rfl)

/-! 40 loop.example/g00244/laws.szJobS -/
noncomputable abbrev P_lszJobS : List PSh := [.t (.sl (.pair (.int .i64) (.pair (.sl (.pair (.int .i64) (.pair .str .str))) (.pair (.int .i64) (.sl (.int .i64)))))), .t (.int .i64)]
noncomputable abbrev S_lszJobS_0 : SS := ⟨[.t false (.sl (.pair (.int .i64) (.pair (.sl (.pair (.int .i64) (.pair .str .str))) (.pair (.int .i64) (.sl (.int .i64)))))), .t true (.int .i64), .junk, .junk, .junk, .t true (.int .i64), .junk, .junk, .junk, .junk, .junk, .junk, .junk, .junk, .junk, .junk, .junk, .junk, .junk, .junk, .junk, .junk, .junk, .junk, .junk, .junk, .junk], []⟩
noncomputable abbrev E_lszJobS_0_0 : SS := ⟨[.junk, .junk, .junk, .junk, .t true (.int .i64), .junk, .junk, .junk, .junk, .junk, .junk, .junk, .junk, .junk, .junk, .junk, .junk, .junk, .junk, .junk, .junk, .junk, .junk, .junk, .junk, .junk, .junk], []⟩
noncomputable abbrev E_lszJobS_0_1 : SS := ⟨[.junk, .t true (.int .i64), .junk, .junk, .junk, .junk, .junk, .junk, .junk, .junk, .junk, .junk, .junk, .junk, .junk, .junk, .junk, .junk, .junk, .junk, .junk, .junk, .junk, .junk, .junk, .junk, .junk], []⟩
noncomputable def st_lszJobS_0 (x0 : List (Int × (List (Int × ByteArray × ByteArray)) × Int × List Int)) (x1 : Int) (x5 : Int) : RT S_lszJobS_0.den := (.br (decide (x5 < ((x0.length : Nat) : Int))) (.br (decide (0 ≤ x5 ∧ x5 < ((x0.length : Nat) : Int))) (.br (q_lszJob ((x0.getD x5.toNat ((0 : Int), ([], ((0 : Int), [])))).1) (((x0.getD x5.toNat ((0 : Int), ([], ((0 : Int), [])))).2).1) ((((x0.getD x5.toNat ((0 : Int), ([], ((0 : Int), [])))).2).2).1) ((((x0.getD x5.toNat ((0 : Int), ([], ((0 : Int), [])))).2).2).2) x1) (.br (decide ((lszJob ((x0.getD x5.toNat ((0 : Int), ([], ((0 : Int), [])))).1) (((x0.getD x5.toNat ((0 : Int), ([], ((0 : Int), [])))).2).1) ((((x0.getD x5.toNat ((0 : Int), ([], ((0 : Int), [])))).2).2).1) ((((x0.getD x5.toNat ((0 : Int), ([], ((0 : Int), [])))).2).2).2) x1) < (0 : Int))) (.done .ret E_lszJobS_0_0 (((), (), (), (), (-1 : Int), (), (), (), (), (), (), (), (), (), (), (), (), (), (), (), (), (), (), (), (), (), (), ()), ())) (.next ((x0, (lszJob ((x0.getD x5.toNat ((0 : Int), ([], ((0 : Int), [])))).1) (((x0.getD x5.toNat ((0 : Int), ([], ((0 : Int), [])))).2).1) ((((x0.getD x5.toNat ((0 : Int), ([], ((0 : Int), [])))).2).2).1) ((((x0.getD x5.toNat ((0 : Int), ([], ((0 : Int), [])))).2).2).2) x1), (), (), (), IntKind.wrap .i64 (x5 + (1 : Int)), (), (), (), (), (), (), (), (), (), (), (), (), (), (), (), (), (), (), (), (), (), ()), ()))) .fail) .fail) (.done (.exit 0) E_lszJobS_0_1 (((), x1, (), (), (), (), (), (), (), (), (), (), (), (), (), (), (), (), (), (), (), (), (), (), (), (), (), ()), ())))
noncomputable abbrev V_lszJobS_0 := (List (Int × (List (Int × ByteArray × ByteArray)) × Int × List Int)) × (Int) × (Int)
noncomputable abbrev A_lszJobS_0 := Nat × (Int) × (Int)
noncomputable def fl_lszJobS_0 : A_lszJobS_0 := (99, ((0 : Int) : Int), ((0 : Int) : Int))
noncomputable def ss_lszJobS_0 (x0 : List (Int × (List (Int × ByteArray × ByteArray)) × Int × List Int)) (x1 : Int) (x5 : Int) : V_lszJobS_0 ⊕ A_lszJobS_0 := (cond (decide (x5 < ((x0.length : Nat) : Int))) (cond (decide (0 ≤ x5 ∧ x5 < ((x0.length : Nat) : Int))) (cond (q_lszJob ((x0.getD x5.toNat ((0 : Int), ([], ((0 : Int), [])))).1) (((x0.getD x5.toNat ((0 : Int), ([], ((0 : Int), [])))).2).1) ((((x0.getD x5.toNat ((0 : Int), ([], ((0 : Int), [])))).2).2).1) ((((x0.getD x5.toNat ((0 : Int), ([], ((0 : Int), [])))).2).2).2) x1) (cond (decide ((lszJob ((x0.getD x5.toNat ((0 : Int), ([], ((0 : Int), [])))).1) (((x0.getD x5.toNat ((0 : Int), ([], ((0 : Int), [])))).2).1) ((((x0.getD x5.toNat ((0 : Int), ([], ((0 : Int), [])))).2).2).1) ((((x0.getD x5.toNat ((0 : Int), ([], ((0 : Int), [])))).2).2).2) x1) < (0 : Int))) (.inr (0, (-1 : Int), ((0 : Int) : Int))) (.inl (x0, (lszJob ((x0.getD x5.toNat ((0 : Int), ([], ((0 : Int), [])))).1) (((x0.getD x5.toNat ((0 : Int), ([], ((0 : Int), [])))).2).1) ((((x0.getD x5.toNat ((0 : Int), ([], ((0 : Int), [])))).2).2).1) ((((x0.getD x5.toNat ((0 : Int), ([], ((0 : Int), [])))).2).2).2) x1), IntKind.wrap .i64 (x5 + (1 : Int))))) (.inr fl_lszJobS_0)) (.inr fl_lszJobS_0)) (.inr (1, ((0 : Int) : Int), x1)))
noncomputable def it_lszJobS_0 (x0 : List (Int × (List (Int × ByteArray × ByteArray)) × Int × List Int)) (x1 : Int) (x5 : Int) : A_lszJobS_0 := itX (fun v : V_lszJobS_0 => ss_lszJobS_0 v.1 v.2.1 v.2.2) fl_lszJobS_0 (x0, x1, x5)
noncomputable def ct_lszJobS_0 (a : A_lszJobS_0) : CT := (.br (a.1 == 0) (.done .ret E_lszJobS_0_0 (((), (), (), (), a.2.1, (), (), (), (), (), (), (), (), (), (), (), (), (), (), (), (), (), (), (), (), (), (), ()), ())) (.br (a.1 == 1) (.done (.exit 0) E_lszJobS_0_1 (((), a.2.2, (), (), (), (), (), (), (), (), (), (), (), (), (), (), (), (), (), (), (), (), (), (), (), (), (), ()), ())) .fail))
noncomputable def T_lszJobS_0 (x0 : List (Int × (List (Int × ByteArray × ByteArray)) × Int × List Int)) (x1 : Int) (x5 : Int) : CT := ct_lszJobS_0 (it_lszJobS_0 x0 x1 x5)
noncomputable abbrev sp_lszJobS_0 : S_lszJobS_0.den → RT S_lszJobS_0.den := fun d => st_lszJobS_0 d.1.1 d.1.2.1 d.1.2.2.2.2.2.1
noncomputable abbrev pk_lszJobS_0 (x0 : List (Int × (List (Int × ByteArray × ByteArray)) × Int × List Int)) (x1 : Int) (x5 : Int) : S_lszJobS_0.den := ((x0, x1, (), (), (), x5, (), (), (), (), (), (), (), (), (), (), (), (), (), (), (), (), (), (), (), (), (), ()), ())
noncomputable def body_lszJobS_0 : Code := ((loopsIn 0 (bodyOf Try.f40)).getD 0 (0, .skip)).2
theorem R_lszJobS_0 (x0 : List (Int × (List (Int × ByteArray × ByteArray)) × Int × List Int)) (x1 : Int) (x5 : Int) : (T_lszJobS_0 x0 x1 x5).val (D := S_lszJobS_0.den) = .fail ∨ Runs sp_lszJobS_0 (pk_lszJobS_0 x0 x1 x5) (T_lszJobS_0 x0 x1 x5).val := Runs.ofIt (step := sp_lszJobS_0) (fun v : V_lszJobS_0 => pk_lszJobS_0 v.1 v.2.1 v.2.2) (ct := ct_lszJobS_0) rfl (fun v => ((relB (relB (relB (relB rfl rfl) rfl) rfl) rfl) : (st_lszJobS_0 v.1 v.2.1 v.2.2).val = relS (fun v : V_lszJobS_0 => pk_lszJobS_0 v.1 v.2.1 v.2.2) ct_lszJobS_0 (ss_lszJobS_0 v.1 v.2.1 v.2.2))) (fun a => ((cendB (cendD (by simp)) (cendB (cendD (by simp)) cendF)) : CEnd _ (ct_lszJobS_0 a))) (x0, x1, x5)
theorem rd_lszJobS_0 : ∀ d, execC Try.prog tt S4 QF4 (fun _ _ => none) 0 body_lszJobS_0 (S_lszJobS_0.st d 0 []) (fun e s' => some (e, S_lszJobS_0.cutE (kepts [4] [(0, [1])]) e s')) = (sp_lszJobS_0 d).opt 0 [] := by
  intro d
  kernel_rfl
noncomputable abbrev say_lszJobS_0 : St → Option Tree := S_lszJobS_0.say 0 [] [] (fun d => T_lszJobS_0 d.1.1 d.1.2.1 d.1.2.2.2.2.2.1)
theorem lw_lszJobS_0 : LoopWp Try.prog say_lszJobS_0 body_lszJobS_0 := SS.wp G4 (fun _ _ => none) (by rw [show loopsIn 0 body_lszJobS_0 = [] by kernel_rfl]; simp) S_lszJobS_0 0 [] (kepts [4] [(0, [1])]) [] sp_lszJobS_0 rd_lszJobS_0 _ (fun d => R_lszJobS_0 d.1.1 d.1.2.1 d.1.2.2.2.2.2.1)
noncomputable def lszJobS (a0 : List (Int × (List (Int × ByteArray × ByteArray)) × Int × List Int)) (a1 : Int) : Int := (cond (decide ((IntKind.wrap .i64 (a1 - ((a0.length : Nat) : Int))) < (0 : Int))) (-1 : Int) (cond ((it_lszJobS_0 a0 (IntKind.wrap .i64 (a1 - ((a0.length : Nat) : Int))) (0 : Int)).1 == 0) ((it_lszJobS_0 a0 (IntKind.wrap .i64 (a1 - ((a0.length : Nat) : Int))) (0 : Int)).2.1) ((it_lszJobS_0 a0 (IntKind.wrap .i64 (a1 - ((a0.length : Nat) : Int))) (0 : Int)).2.2)))
noncomputable abbrev e_lszJobS (r : Int) : AV × List AObj := ((.t true (.int .i64) r), [])
noncomputable abbrev g_lszJobS : pshsDen P_lszJobS → AV × List AObj := fun d => e_lszJobS (lszJobS d.1 d.2.1)
noncomputable def q_lszJobS (a0 : List (Int × (List (Int × ByteArray × ByteArray)) × Int × List Int)) (a1 : Int) : Bool := cond (decide ((IntKind.wrap .i64 (a1 - ((a0.length : Nat) : Int))) < (0 : Int))) true (cond ((it_lszJobS_0 a0 (IntKind.wrap .i64 (a1 - ((a0.length : Nat) : Int))) (0 : Int)).1 == 0) true ((it_lszJobS_0 a0 (IntKind.wrap .i64 (a1 - ((a0.length : Nat) : Int))) (0 : Int)).1 == 1))
noncomputable abbrev pre_lszJobS : pshsDen P_lszJobS → Bool := fun d => q_lszJobS d.1 d.2.1
theorem runA_lszJobS (a0 : List (Int × (List (Int × ByteArray × ByteArray)) × Int × List Int)) (a1 : Int) (hp : (cond (decide ((IntKind.wrap .i64 (a1 - ((a0.length : Nat) : Int))) < (0 : Int))) true (cond ((it_lszJobS_0 a0 (IntKind.wrap .i64 (a1 - ((a0.length : Nat) : Int))) (0 : Int)).1 == 0) true ((it_lszJobS_0 a0 (IntKind.wrap .i64 (a1 - ((a0.length : Nat) : Int))) (0 : Int)).1 == 1))) = true) : runP true Try.prog tt S4 QF4 (fun b => match b with | 0 => say_lszJobS_0 | _ => fun _ => none) Try.f40 (argsMk P_lszJobS (a0, (a1, ()))) = some (g_lszJobS (a0, (a1, ()))) := by
  refine Eq.trans (b := (cond (decide ((IntKind.wrap .i64 (a1 - ((a0.length : Nat) : Int))) < (0 : Int))) (some (e_lszJobS (-1 : Int))) (cond ((it_lszJobS_0 a0 (IntKind.wrap .i64 (a1 - ((a0.length : Nat) : Int))) (0 : Int)).1 == 0) (some (e_lszJobS ((it_lszJobS_0 a0 (IntKind.wrap .i64 (a1 - ((a0.length : Nat) : Int))) (0 : Int)).2.1))) (cond ((it_lszJobS_0 a0 (IntKind.wrap .i64 (a1 - ((a0.length : Nat) : Int))) (0 : Int)).1 == 1) (some (e_lszJobS ((it_lszJobS_0 a0 (IntKind.wrap .i64 (a1 - ((a0.length : Nat) : Int))) (0 : Int)).2.2))) none)))) (by kernel_rfl) ?_
  exact (cndQ (F := fun r => some (e_lszJobS r)) hp (fun hp => rfl) (fun hp => (cndQ (F := fun r => some (e_lszJobS r)) hp (fun hp => rfl) (fun hp => (cndT hp (fun _h => rfl))))))
theorem run_lszJobS : ∀ d, pre_lszJobS d = true → runP true Try.prog tt S4 QF4 (fun b => match b with | 0 => say_lszJobS_0 | _ => fun _ => none) Try.f40 (argsMk P_lszJobS d) = some (g_lszJobS d) := fun d hp => runA_lszJobS d.1 d.2.1 hp
theorem c_lszJobS : PContract Try.prog 40 (sumOf P_lszJobS pre_lszJobS g_lszJobS) := PContract.of_data true G4 (fn := Try.f40) (by kernel_rfl) (L := fun b => match b with | 0 => say_lszJobS_0 | _ => fun _ => none) (by rw [show loopsIn 0 (bodyOf Try.f40) = [(0, body_lszJobS_0)] by kernel_rfl]; intro p hp; simp only [List.mem_singleton] at hp; subst hp; exact lw_lszJobS_0) P_lszJobS pre_lszJobS g_lszJobS run_lszJobS
noncomputable def S5 : Tab := Tab.add S4 40 (lift (sumOf P_lszJobS pre_lszJobS g_lszJobS))
noncomputable def QF5 : FuncId → Bool := qadd QF4 40
theorem G5 : Good Try.prog tt S5 QF5 := G4.addQ c_lszJobS ⟨Try.f40, by kernel_rfl, by kernel_rfl, by kernel_rfl⟩ (fun _ => rfl)

/-! 41 loop.example/g00244/laws.szChoiceS -/
noncomputable abbrev P_lszChoiceS : List PSh := [.t (.sl (.pair (.int .i64) .bool)), .t (.int .i64)]
noncomputable def lszChoiceS (a0 : List (Int × Bool)) (a1 : Int) : Int := (cond (decide ((IntKind.wrap .i64 (a1 - ((a0.length : Nat) : Int))) < (0 : Int))) (-1 : Int) (IntKind.wrap .i64 (a1 - ((a0.length : Nat) : Int))))
noncomputable abbrev e_lszChoiceS (r : Int) : AV × List AObj := ((.t true (.int .i64) r), [])
noncomputable abbrev g_lszChoiceS : pshsDen P_lszChoiceS → AV × List AObj := fun d => e_lszChoiceS (lszChoiceS d.1 d.2.1)
noncomputable abbrev pre_lszChoiceS : pshsDen P_lszChoiceS → Bool := fun d => true
theorem runA_lszChoiceS (a0 : List (Int × Bool)) (a1 : Int) : runP true Try.prog tt S5 QF5 (fun _ _ => none) Try.f41 (argsMk P_lszChoiceS (a0, (a1, ()))) = some (g_lszChoiceS (a0, (a1, ()))) := by
  refine Eq.trans (b := (cond (decide ((IntKind.wrap .i64 (a1 - ((a0.length : Nat) : Int))) < (0 : Int))) (some (e_lszChoiceS (-1 : Int))) (some (e_lszChoiceS (IntKind.wrap .i64 (a1 - ((a0.length : Nat) : Int))))))) (by kernel_rfl) ?_
  exact (cnd (F := fun r => some (e_lszChoiceS r)) (fun _h => rfl) (fun _h => rfl))
theorem run_lszChoiceS : ∀ d, pre_lszChoiceS d = true → runP true Try.prog tt S5 QF5 (fun _ _ => none) Try.f41 (argsMk P_lszChoiceS d) = some (g_lszChoiceS d) := fun d hp => runA_lszChoiceS d.1 d.2.1
theorem c_lszChoiceS : PContract Try.prog 41 (sumOf P_lszChoiceS pre_lszChoiceS g_lszChoiceS) := PContract.of_data true G5 (fn := Try.f41) (by kernel_rfl) (L := fun _ _ => none) (by rw [show loopsIn 0 (bodyOf Try.f41) = [] by kernel_rfl]; simp) P_lszChoiceS pre_lszChoiceS g_lszChoiceS run_lszChoiceS
noncomputable def S6 : Tab := Tab.add S5 41 (lift (sumOf P_lszChoiceS pre_lszChoiceS g_lszChoiceS))
noncomputable def QF6 : FuncId → Bool := qadd QF5 41
theorem G6 : Good Try.prog tt S6 QF6 := G5.addQ c_lszChoiceS ⟨Try.f41, by kernel_rfl, by kernel_rfl, by kernel_rfl⟩ (fun _ => rfl)

/-! 13 loop.example/g00244/laws.szCoord -/
noncomputable abbrev P_lszCoord : List PSh := [.agg [(.int .i64), (.int .i64), (.int .i64), (.sl (.pair (.int .i64) (.pair (.sl (.pair (.int .i64) (.pair .str .str))) (.pair (.int .i64) (.sl (.int .i64)))))), (.sl (.pair (.int .i64) .bool)), (.int .i64)], .t (.int .i64)]
noncomputable def lszCoord (a0 : Int) (a1 : Int) (a2 : Int) (a3 : List (Int × (List (Int × ByteArray × ByteArray)) × Int × List Int)) (a4 : List (Int × Bool)) (a5 : Int) (a6 : Int) : Int := (cond (decide ((lszJobS a3 a6) < (0 : Int))) (-1 : Int) (cond (decide ((lszChoiceS a4 (lszJobS a3 a6)) < (0 : Int))) (-1 : Int) (lszChoiceS a4 (lszJobS a3 a6))))
noncomputable abbrev e_lszCoord (r : Int) : AV × List AObj := ((.t true (.int .i64) r), [])
noncomputable abbrev g_lszCoord : pshsDen P_lszCoord → AV × List AObj := fun d => e_lszCoord (lszCoord d.1.1 d.1.2.1 d.1.2.2.1 d.1.2.2.2.1 d.1.2.2.2.2.1 d.1.2.2.2.2.2.1 d.2.1)
noncomputable def q_lszCoord (a0 : Int) (a1 : Int) (a2 : Int) (a3 : List (Int × (List (Int × ByteArray × ByteArray)) × Int × List Int)) (a4 : List (Int × Bool)) (a5 : Int) (a6 : Int) : Bool := q_lszJobS a3 a6
noncomputable abbrev pre_lszCoord : pshsDen P_lszCoord → Bool := fun d => q_lszCoord d.1.1 d.1.2.1 d.1.2.2.1 d.1.2.2.2.1 d.1.2.2.2.2.1 d.1.2.2.2.2.2.1 d.2.1
theorem runA_lszCoord (a0 : Int) (a1 : Int) (a2 : Int) (a3 : List (Int × (List (Int × ByteArray × ByteArray)) × Int × List Int)) (a4 : List (Int × Bool)) (a5 : Int) (a6 : Int) (hp : (q_lszJobS a3 a6) = true) : runP true Try.prog tt S6 QF6 (fun _ _ => none) Try.f13 (argsMk P_lszCoord ((a0, (a1, (a2, (a3, (a4, (a5, ())))))), (a6, ()))) = some (g_lszCoord ((a0, (a1, (a2, (a3, (a4, (a5, ())))))), (a6, ()))) := by
  refine Eq.trans (b := (cond (q_lszJobS a3 a6) (cond (decide ((lszJobS a3 a6) < (0 : Int))) (some (e_lszCoord (-1 : Int))) (cond (decide ((lszChoiceS a4 (lszJobS a3 a6)) < (0 : Int))) (some (e_lszCoord (-1 : Int))) (some (e_lszCoord (lszChoiceS a4 (lszJobS a3 a6)))))) none)) (by kernel_rfl) ?_
  exact (cndT hp (fun _h => (cnd (F := fun r => some (e_lszCoord r)) (fun _h => rfl) (fun _h => (cnd (F := fun r => some (e_lszCoord r)) (fun _h => rfl) (fun _h => rfl))))))
theorem run_lszCoord : ∀ d, pre_lszCoord d = true → runP true Try.prog tt S6 QF6 (fun _ _ => none) Try.f13 (argsMk P_lszCoord d) = some (g_lszCoord d) := fun d hp => runA_lszCoord d.1.1 d.1.2.1 d.1.2.2.1 d.1.2.2.2.1 d.1.2.2.2.2.1 d.1.2.2.2.2.2.1 d.2.1 hp
theorem c_lszCoord : PContract Try.prog 13 (sumOf P_lszCoord pre_lszCoord g_lszCoord) := PContract.of_data true G6 (fn := Try.f13) (by kernel_rfl) (L := fun _ _ => none) (by rw [show loopsIn 0 (bodyOf Try.f13) = [] by kernel_rfl]; simp) P_lszCoord pre_lszCoord g_lszCoord run_lszCoord
noncomputable def S7 : Tab := Tab.add S6 13 (lift (sumOf P_lszCoord pre_lszCoord g_lszCoord))
noncomputable def QF7 : FuncId → Bool := qadd QF6 13
theorem G7 : Good Try.prog tt S7 QF7 := G6.addQ c_lszCoord ⟨Try.f13, by kernel_rfl, by kernel_rfl, by kernel_rfl⟩ (fun _ => rfl)

/-! 146 loop.example/g00244/laws.toOp -/
noncomputable abbrev P_ltoOp : List PSh := [.agg [(.int .i64), .str, .str]]
noncomputable def ltoOp (a0 : Int) (a1 : ByteArray) (a2 : ByteArray) : Int × ByteArray × ByteArray := (a0, a1, a2)
noncomputable abbrev e_ltoOp (r : Int × ByteArray × ByteArray) : AV × List AObj := ((.agg [(.t true (.int .i64) r.1), (.t true .str r.2.1), (.t true .str r.2.2)]), [])
noncomputable abbrev g_ltoOp : pshsDen P_ltoOp → AV × List AObj := fun d => e_ltoOp (ltoOp d.1.1 d.1.2.1 d.1.2.2.1)
noncomputable abbrev pre_ltoOp : pshsDen P_ltoOp → Bool := fun d => true
theorem runA_ltoOp (a0 : Int) (a1 : ByteArray) (a2 : ByteArray) : runP true Try.prog tt S7 QF7 (fun _ _ => none) Try.f146 (argsMk P_ltoOp ((a0, (a1, (a2, ()))), ())) = some (g_ltoOp ((a0, (a1, (a2, ()))), ())) := by
  kernel_rfl
theorem run_ltoOp : ∀ d, pre_ltoOp d = true → runP true Try.prog tt S7 QF7 (fun _ _ => none) Try.f146 (argsMk P_ltoOp d) = some (g_ltoOp d) := fun d hp => runA_ltoOp d.1.1 d.1.2.1 d.1.2.2.1
theorem c_ltoOp : PContract Try.prog 146 (sumOf P_ltoOp pre_ltoOp g_ltoOp) := PContract.of_data true G7 (fn := Try.f146) (by kernel_rfl) (L := fun _ _ => none) (by rw [show loopsIn 0 (bodyOf Try.f146) = [] by kernel_rfl]; simp) P_ltoOp pre_ltoOp g_ltoOp run_ltoOp
noncomputable def S8 : Tab := Tab.add S7 146 (lift (sumOf P_ltoOp pre_ltoOp g_ltoOp))
noncomputable def QF8 : FuncId → Bool := qadd QF7 146
theorem G8 : Good Try.prog tt S8 QF8 := G7.addQ c_ltoOp ⟨Try.f146, by kernel_rfl, by kernel_rfl, by kernel_rfl⟩ (fun _ => rfl)

/-! 122 loop.example/g00244/laws.toOpS -/
noncomputable def f_ltoOpS_0 (x0 : List (Int × ByteArray × ByteArray)) (i : Nat) : Int × ByteArray × ByteArray := (((ltoOp ((x0.getD i ((0 : Int), ((⟨#[]⟩ : ByteArray), (⟨#[]⟩ : ByteArray)))).1) (((x0.getD i ((0 : Int), ((⟨#[]⟩ : ByteArray), (⟨#[]⟩ : ByteArray)))).2).1) (((x0.getD i ((0 : Int), ((⟨#[]⟩ : ByteArray), (⟨#[]⟩ : ByteArray)))).2).2)).1), (((ltoOp ((x0.getD i ((0 : Int), ((⟨#[]⟩ : ByteArray), (⟨#[]⟩ : ByteArray)))).1) (((x0.getD i ((0 : Int), ((⟨#[]⟩ : ByteArray), (⟨#[]⟩ : ByteArray)))).2).1) (((x0.getD i ((0 : Int), ((⟨#[]⟩ : ByteArray), (⟨#[]⟩ : ByteArray)))).2).2)).2.1), ((ltoOp ((x0.getD i ((0 : Int), ((⟨#[]⟩ : ByteArray), (⟨#[]⟩ : ByteArray)))).1) (((x0.getD i ((0 : Int), ((⟨#[]⟩ : ByteArray), (⟨#[]⟩ : ByteArray)))).2).1) (((x0.getD i ((0 : Int), ((⟨#[]⟩ : ByteArray), (⟨#[]⟩ : ByteArray)))).2).2)).2.2)))
noncomputable abbrev P_ltoOpS : List PSh := [.t (.sl (.pair (.int .i64) (.pair .str .str)))]
noncomputable abbrev S_ltoOpS_0 : SS := ⟨[.t false (.sl (.pair (.int .i64) (.pair .str .str))), .junk, .junk, .all 0 3, .t true (.int .i64), .junk, .junk, .junk, .junk, .junk, .junk, .junk, .junk, .junk, .junk, .junk, .junk, .junk, .junk, .junk, .junk, .junk, .junk], [.rows 90 true (.pair (.int .i64) (.pair .str .str))]⟩
noncomputable abbrev E_ltoOpS_0_0 : SS := ⟨[.junk, .junk, .junk, .all 0 3, .junk, .junk, .junk, .junk, .junk, .junk, .junk, .junk, .junk, .junk, .junk, .junk, .junk, .junk, .junk, .junk, .junk, .junk, .junk], [.rows 90 true (.pair (.int .i64) (.pair .str .str))]⟩
noncomputable def st_ltoOpS_0 (x0 : List (Int × ByteArray × ByteArray)) (x4 : Int) (h0 : List (Int × ByteArray × ByteArray)) : RT S_ltoOpS_0.den := (.br (decide (x4 < ((x0.length : Nat) : Int))) (.br (decide (0 ≤ x4 ∧ x4 < ((x0.length : Nat) : Int))) (.br (decide (0 ≤ x4 ∧ x4 < ((h0.length : Nat) : Int))) (.next ((x0, (), (), (), IntKind.wrap .i64 (x4 + (1 : Int)), (), (), (), (), (), (), (), (), (), (), (), (), (), (), (), (), (), (), ()), (h0.set x4.toNat (((ltoOp ((x0.getD x4.toNat ((0 : Int), ((⟨#[]⟩ : ByteArray), (⟨#[]⟩ : ByteArray)))).1) (((x0.getD x4.toNat ((0 : Int), ((⟨#[]⟩ : ByteArray), (⟨#[]⟩ : ByteArray)))).2).1) (((x0.getD x4.toNat ((0 : Int), ((⟨#[]⟩ : ByteArray), (⟨#[]⟩ : ByteArray)))).2).2)).1), (((ltoOp ((x0.getD x4.toNat ((0 : Int), ((⟨#[]⟩ : ByteArray), (⟨#[]⟩ : ByteArray)))).1) (((x0.getD x4.toNat ((0 : Int), ((⟨#[]⟩ : ByteArray), (⟨#[]⟩ : ByteArray)))).2).1) (((x0.getD x4.toNat ((0 : Int), ((⟨#[]⟩ : ByteArray), (⟨#[]⟩ : ByteArray)))).2).2)).2.1), ((ltoOp ((x0.getD x4.toNat ((0 : Int), ((⟨#[]⟩ : ByteArray), (⟨#[]⟩ : ByteArray)))).1) (((x0.getD x4.toNat ((0 : Int), ((⟨#[]⟩ : ByteArray), (⟨#[]⟩ : ByteArray)))).2).1) (((x0.getD x4.toNat ((0 : Int), ((⟨#[]⟩ : ByteArray), (⟨#[]⟩ : ByteArray)))).2).2)).2.2))), ()))) .fail) .fail) (.done (.exit 0) E_ltoOpS_0_0 (((), (), (), (), (), (), (), (), (), (), (), (), (), (), (), (), (), (), (), (), (), (), (), ()), (h0, ()))))
noncomputable def T_ltoOpS_0 (x0 : List (Int × ByteArray × ByteArray)) (x4 : Int) (h0 : List (Int × ByteArray × ByteArray)) : CT := (.br (decide (0 ≤ x4) && (decide (h0.length = x0.length) && okL x0)) (.done (.exit 0) E_ltoOpS_0_0 (((), (), (), (), (), (), (), (), (), (), (), (), (), (), (), (), (), (), (), (), (), (), (), ()), ((foldN (fun i h => h.set i (f_ltoOpS_0 x0 i)) (x0.length - x4.toNat) x4.toNat h0), ()))) .fail)
noncomputable abbrev sp_ltoOpS_0 : S_ltoOpS_0.den → RT S_ltoOpS_0.den := fun d => st_ltoOpS_0 d.1.1 d.1.2.2.2.2.1 d.2.1
noncomputable abbrev pk_ltoOpS_0 (x0 : List (Int × ByteArray × ByteArray)) (x4 : Int) (h0 : List (Int × ByteArray × ByteArray)) : S_ltoOpS_0.den := ((x0, (), (), (), x4, (), (), (), (), (), (), (), (), (), (), (), (), (), (), (), (), (), (), ()), (h0, ()))
noncomputable def body_ltoOpS_0 : Code := ((loopsIn 0 (bodyOf Try.f122)).getD 0 (0, .skip)).2
theorem R_ltoOpS_0 (x0 : List (Int × ByteArray × ByteArray)) (x4 : Int) (h0 : List (Int × ByteArray × ByteArray)) : (T_ltoOpS_0 x0 x4 h0).val (D := S_ltoOpS_0.den) = .fail ∨ Runs sp_ltoOpS_0 (pk_ltoOpS_0 x0 x4 h0) (T_ltoOpS_0 x0 x4 h0).val := by
  cases hc : (decide (0 ≤ x4) && (decide (h0.length = x0.length) && okL x0)) with
  | false => left; simp only [T_ltoOpS_0, CT.val, hc, cond_false]
  | true =>
    right
    simp only [T_ltoOpS_0, CT.val, hc, cond_true]
    simp only [Bool.and_eq_true, decide_eq_true_eq] at hc
    obtain ⟨i, rfl⟩ := Int.eq_ofNat_of_zero_le hc.1
    have hs := okL_le hc.2.2
    simp only [Int.toNat_natCast]
    refine Runs.foldN (step := sp_ltoOpS_0) (fun j b => pk_ltoOpS_0 x0 (j : Int) b) (fun _ b => b.length = x0.length) (x0.length) (fun i h => h.set i (f_ltoOpS_0 x0 i))
      (fin := fun b => ((.done (.exit 0) E_ltoOpS_0_0 (((), (), (), (), (), (), (), (), (), (), (), (), (), (), (), (), (), (), (), (), (), (), (), ()), (b, ()))) : CT).val) (fun i b hi hb => ⟨by simpa using hb, ?_⟩) (fun i b hi hb => ?_) (x0.length - i) i h0 rfl hc.2.1
    · 
      have h0a : decide ((i : Int) < ((x0.length : Nat) : Int)) = true := decide_eq_true (by omega)
      have h0b : decide (0 ≤ (i : Int) ∧ (i : Int) < ((x0.length : Nat) : Int)) = true := decide_eq_true (by omega)
      have h9 : decide (0 ≤ (i : Int) ∧ (i : Int) < ((b.length : Nat) : Int)) = true := decide_eq_true (by omega)
      simp only [sp_ltoOpS_0, st_ltoOpS_0, RT.val, h0a, h0b, h9, cond_true, wrapS i (by omega), Int.toNat_natCast]
      rfl
    · have h1 : decide ((i : Int) < ((x0.length : Nat) : Int)) = false := decide_eq_false (by omega)
      exact ⟨by simp only [sp_ltoOpS_0, st_ltoOpS_0, RT.val, h1, cond_false]; rfl, _, _, _, rfl, by simp⟩
theorem rd_ltoOpS_0 : ∀ d, execC Try.prog tt S8 QF8 (fun _ _ => none) 0 body_ltoOpS_0 (S_ltoOpS_0.st d 0 []) (fun e s' => some (e, S_ltoOpS_0.cutE (kepts [] [(0, [3])]) e s')) = (sp_ltoOpS_0 d).opt 0 [] := by
  intro d
  kernel_rfl
noncomputable abbrev say_ltoOpS_0 : St → Option Tree := S_ltoOpS_0.say 0 [] [] (fun d => T_ltoOpS_0 d.1.1 d.1.2.2.2.2.1 d.2.1)
theorem lw_ltoOpS_0 : LoopWp Try.prog say_ltoOpS_0 body_ltoOpS_0 := SS.wp G8 (fun _ _ => none) (by rw [show loopsIn 0 body_ltoOpS_0 = [] by kernel_rfl]; simp) S_ltoOpS_0 0 [] (kepts [] [(0, [3])]) [] sp_ltoOpS_0 rd_ltoOpS_0 _ (fun d => R_ltoOpS_0 d.1.1 d.1.2.2.2.2.1 d.2.1)
noncomputable def ltoOpS (a0 : List (Int × ByteArray × ByteArray)) : List (Int × ByteArray × ByteArray) := (foldN (fun i h => h.set i (f_ltoOpS_0 a0 i)) (a0.length - (0 : Int).toNat) (0 : Int).toNat (List.replicate ((a0.length : Nat) : Int).toNat ((0 : Int), ((⟨#[]⟩ : ByteArray), (⟨#[]⟩ : ByteArray)))))
noncomputable abbrev e_ltoOpS (r : List (Int × ByteArray × ByteArray)) : AV × List AObj := ((.t true (.sl (.pair (.int .i64) (.pair .str .str))) r), [])
noncomputable abbrev g_ltoOpS : pshsDen P_ltoOpS → AV × List AObj := fun d => e_ltoOpS (ltoOpS d.1)
noncomputable def q_ltoOpS (a0 : List (Int × ByteArray × ByteArray)) : Bool := okL a0
noncomputable abbrev pre_ltoOpS : pshsDen P_ltoOpS → Bool := fun d => q_ltoOpS d.1
theorem runA_ltoOpS (a0 : List (Int × ByteArray × ByteArray)) (hp : (okL a0) = true) : runP true Try.prog tt S8 QF8 (fun b => match b with | 0 => say_ltoOpS_0 | _ => fun _ => none) Try.f122 (argsMk P_ltoOpS (a0, ())) = some (g_ltoOpS (a0, ())) := by
  refine Eq.trans (b := (cond (decide (0 ≤ ((a0.length : Nat) : Int) ∧ ((a0.length : Nat) : Int) = ((a0.length : Nat) : Int) ∧ ((a0.length : Nat) : Int).toNat * 40 ≤ MAXB ∧ ((a0.length : Nat) : Int) ≤ 9223372036854775807)) (cond (decide (0 ≤ (0 : Int)) && (decide ((List.replicate ((a0.length : Nat) : Int).toNat ((0 : Int), ((⟨#[]⟩ : ByteArray), (⟨#[]⟩ : ByteArray)))).length = a0.length) && okL a0)) (some (e_ltoOpS (foldN (fun i h => h.set i (f_ltoOpS_0 a0 i)) (a0.length - (0 : Int).toNat) (0 : Int).toNat (List.replicate ((a0.length : Nat) : Int).toNat ((0 : Int), ((⟨#[]⟩ : ByteArray), (⟨#[]⟩ : ByteArray))))))) none) none)) (by kernel_rfl) ?_
  exact (cndT (by first | rfl | decide | exact hp | (simp only [Bool.and_eq_true] at hp; simp only [hp]; done) | (simp [*]; done) | (simp [okL] at hp; simp [okL, MAXB]; omega) | (simp_all; done) | (simp at *; omega)) (fun _h => (cndT (by first | rfl | decide | exact hp | (simp only [Bool.and_eq_true] at hp; simp only [hp]; done) | (simp [*]; done) | (simp [okL] at hp; simp [okL, MAXB]; omega) | (simp_all; done) | (simp at *; omega)) (fun _h => rfl))))
theorem run_ltoOpS : ∀ d, pre_ltoOpS d = true → runP true Try.prog tt S8 QF8 (fun b => match b with | 0 => say_ltoOpS_0 | _ => fun _ => none) Try.f122 (argsMk P_ltoOpS d) = some (g_ltoOpS d) := fun d hp => runA_ltoOpS d.1 hp
theorem c_ltoOpS : PContract Try.prog 122 (sumOf P_ltoOpS pre_ltoOpS g_ltoOpS) := PContract.of_data true G8 (fn := Try.f122) (by kernel_rfl) (L := fun b => match b with | 0 => say_ltoOpS_0 | _ => fun _ => none) (by rw [show loopsIn 0 (bodyOf Try.f122) = [(0, body_ltoOpS_0)] by kernel_rfl]; intro p hp; simp only [List.mem_singleton] at hp; subst hp; exact lw_ltoOpS_0) P_ltoOpS pre_ltoOpS g_ltoOpS run_ltoOpS
noncomputable def S9 : Tab := Tab.add S8 122 (lift (sumOf P_ltoOpS pre_ltoOpS g_ltoOpS))
noncomputable def QF9 : FuncId → Bool := qadd QF8 122
theorem G9 : Good Try.prog tt S9 QF9 := G8.addQ c_ltoOpS ⟨Try.f122, by kernel_rfl, by kernel_rfl, by kernel_rfl⟩ (fun _ => rfl)

/-! 123 loop.example/g00244/laws.toIntS -/
noncomputable def f_ltoIntS_0 (x0 : List Int) (i : Nat) : Int := (x0.getD i (0 : Int))
noncomputable abbrev P_ltoIntS : List PSh := [.t (.sl (.int .i64))]
noncomputable abbrev S_ltoIntS_0 : SS := ⟨[.t false (.sl (.int .i64)), .junk, .junk, .all 0 1, .t true (.int .i64), .junk, .junk, .junk, .junk, .junk, .junk, .junk, .junk, .junk, .junk, .junk, .junk, .junk, .junk, .junk, .junk, .junk], [.rows 3 true (.int .i64)]⟩
noncomputable abbrev E_ltoIntS_0_0 : SS := ⟨[.junk, .junk, .junk, .all 0 1, .junk, .junk, .junk, .junk, .junk, .junk, .junk, .junk, .junk, .junk, .junk, .junk, .junk, .junk, .junk, .junk, .junk, .junk], [.rows 3 true (.int .i64)]⟩
noncomputable def st_ltoIntS_0 (x0 : List Int) (x4 : Int) (h0 : List Int) : RT S_ltoIntS_0.den := (.br (decide (x4 < ((x0.length : Nat) : Int))) (.br (decide (0 ≤ x4 ∧ x4 < ((x0.length : Nat) : Int))) (.br (decide (0 ≤ x4 ∧ x4 < ((h0.length : Nat) : Int))) (.next ((x0, (), (), (), IntKind.wrap .i64 (x4 + (1 : Int)), (), (), (), (), (), (), (), (), (), (), (), (), (), (), (), (), (), ()), (h0.set x4.toNat (x0.getD x4.toNat (0 : Int)), ()))) .fail) .fail) (.done (.exit 0) E_ltoIntS_0_0 (((), (), (), (), (), (), (), (), (), (), (), (), (), (), (), (), (), (), (), (), (), (), ()), (h0, ()))))
noncomputable def T_ltoIntS_0 (x0 : List Int) (x4 : Int) (h0 : List Int) : CT := (.br (decide (0 ≤ x4) && (decide (h0.length = x0.length) && okL x0)) (.done (.exit 0) E_ltoIntS_0_0 (((), (), (), (), (), (), (), (), (), (), (), (), (), (), (), (), (), (), (), (), (), (), ()), ((foldN (fun i h => h.set i (f_ltoIntS_0 x0 i)) (x0.length - x4.toNat) x4.toNat h0), ()))) .fail)
noncomputable abbrev sp_ltoIntS_0 : S_ltoIntS_0.den → RT S_ltoIntS_0.den := fun d => st_ltoIntS_0 d.1.1 d.1.2.2.2.2.1 d.2.1
noncomputable abbrev pk_ltoIntS_0 (x0 : List Int) (x4 : Int) (h0 : List Int) : S_ltoIntS_0.den := ((x0, (), (), (), x4, (), (), (), (), (), (), (), (), (), (), (), (), (), (), (), (), (), ()), (h0, ()))
noncomputable def body_ltoIntS_0 : Code := ((loopsIn 0 (bodyOf Try.f123)).getD 0 (0, .skip)).2
theorem R_ltoIntS_0 (x0 : List Int) (x4 : Int) (h0 : List Int) : (T_ltoIntS_0 x0 x4 h0).val (D := S_ltoIntS_0.den) = .fail ∨ Runs sp_ltoIntS_0 (pk_ltoIntS_0 x0 x4 h0) (T_ltoIntS_0 x0 x4 h0).val := by
  cases hc : (decide (0 ≤ x4) && (decide (h0.length = x0.length) && okL x0)) with
  | false => left; simp only [T_ltoIntS_0, CT.val, hc, cond_false]
  | true =>
    right
    simp only [T_ltoIntS_0, CT.val, hc, cond_true]
    simp only [Bool.and_eq_true, decide_eq_true_eq] at hc
    obtain ⟨i, rfl⟩ := Int.eq_ofNat_of_zero_le hc.1
    have hs := okL_le hc.2.2
    simp only [Int.toNat_natCast]
    refine Runs.foldN (step := sp_ltoIntS_0) (fun j b => pk_ltoIntS_0 x0 (j : Int) b) (fun _ b => b.length = x0.length) (x0.length) (fun i h => h.set i (f_ltoIntS_0 x0 i))
      (fin := fun b => ((.done (.exit 0) E_ltoIntS_0_0 (((), (), (), (), (), (), (), (), (), (), (), (), (), (), (), (), (), (), (), (), (), (), ()), (b, ()))) : CT).val) (fun i b hi hb => ⟨by simpa using hb, ?_⟩) (fun i b hi hb => ?_) (x0.length - i) i h0 rfl hc.2.1
    · 
      have h0a : decide ((i : Int) < ((x0.length : Nat) : Int)) = true := decide_eq_true (by omega)
      have h0b : decide (0 ≤ (i : Int) ∧ (i : Int) < ((x0.length : Nat) : Int)) = true := decide_eq_true (by omega)
      have h9 : decide (0 ≤ (i : Int) ∧ (i : Int) < ((b.length : Nat) : Int)) = true := decide_eq_true (by omega)
      simp only [sp_ltoIntS_0, st_ltoIntS_0, RT.val, h0a, h0b, h9, cond_true, wrapS i (by omega), Int.toNat_natCast]
      rfl
    · have h1 : decide ((i : Int) < ((x0.length : Nat) : Int)) = false := decide_eq_false (by omega)
      exact ⟨by simp only [sp_ltoIntS_0, st_ltoIntS_0, RT.val, h1, cond_false]; rfl, _, _, _, rfl, by simp⟩
theorem rd_ltoIntS_0 : ∀ d, execC Try.prog tt S9 QF9 (fun _ _ => none) 0 body_ltoIntS_0 (S_ltoIntS_0.st d 0 []) (fun e s' => some (e, S_ltoIntS_0.cutE (kepts [] [(0, [3])]) e s')) = (sp_ltoIntS_0 d).opt 0 [] := by
  intro d
  kernel_rfl
noncomputable abbrev say_ltoIntS_0 : St → Option Tree := S_ltoIntS_0.say 0 [] [] (fun d => T_ltoIntS_0 d.1.1 d.1.2.2.2.2.1 d.2.1)
theorem lw_ltoIntS_0 : LoopWp Try.prog say_ltoIntS_0 body_ltoIntS_0 := SS.wp G9 (fun _ _ => none) (by rw [show loopsIn 0 body_ltoIntS_0 = [] by kernel_rfl]; simp) S_ltoIntS_0 0 [] (kepts [] [(0, [3])]) [] sp_ltoIntS_0 rd_ltoIntS_0 _ (fun d => R_ltoIntS_0 d.1.1 d.1.2.2.2.2.1 d.2.1)
noncomputable def ltoIntS (a0 : List Int) : List Int := (foldN (fun i h => h.set i (f_ltoIntS_0 a0 i)) (a0.length - (0 : Int).toNat) (0 : Int).toNat (List.replicate ((a0.length : Nat) : Int).toNat (0 : Int)))
noncomputable abbrev e_ltoIntS (r : List Int) : AV × List AObj := ((.t true (.sl (.int .i64)) r), [])
noncomputable abbrev g_ltoIntS : pshsDen P_ltoIntS → AV × List AObj := fun d => e_ltoIntS (ltoIntS d.1)
noncomputable def q_ltoIntS (a0 : List Int) : Bool := okL a0
noncomputable abbrev pre_ltoIntS : pshsDen P_ltoIntS → Bool := fun d => q_ltoIntS d.1
theorem runA_ltoIntS (a0 : List Int) (hp : (okL a0) = true) : runP true Try.prog tt S9 QF9 (fun b => match b with | 0 => say_ltoIntS_0 | _ => fun _ => none) Try.f123 (argsMk P_ltoIntS (a0, ())) = some (g_ltoIntS (a0, ())) := by
  refine Eq.trans (b := (cond (decide (0 ≤ ((a0.length : Nat) : Int) ∧ ((a0.length : Nat) : Int) = ((a0.length : Nat) : Int) ∧ ((a0.length : Nat) : Int).toNat * 8 ≤ MAXB ∧ ((a0.length : Nat) : Int) ≤ 9223372036854775807)) (cond (decide (0 ≤ (0 : Int)) && (decide ((List.replicate ((a0.length : Nat) : Int).toNat (0 : Int)).length = a0.length) && okL a0)) (some (e_ltoIntS (foldN (fun i h => h.set i (f_ltoIntS_0 a0 i)) (a0.length - (0 : Int).toNat) (0 : Int).toNat (List.replicate ((a0.length : Nat) : Int).toNat (0 : Int))))) none) none)) (by kernel_rfl) ?_
  exact (cndT (by first | rfl | decide | exact hp | (simp only [Bool.and_eq_true] at hp; simp only [hp]; done) | (simp [*]; done) | (simp [okL] at hp; simp [okL, MAXB]; omega) | (simp_all; done) | (simp at *; omega)) (fun _h => (cndT (by first | rfl | decide | exact hp | (simp only [Bool.and_eq_true] at hp; simp only [hp]; done) | (simp [*]; done) | (simp [okL] at hp; simp [okL, MAXB]; omega) | (simp_all; done) | (simp at *; omega)) (fun _h => rfl))))
theorem run_ltoIntS : ∀ d, pre_ltoIntS d = true → runP true Try.prog tt S9 QF9 (fun b => match b with | 0 => say_ltoIntS_0 | _ => fun _ => none) Try.f123 (argsMk P_ltoIntS d) = some (g_ltoIntS d) := fun d hp => runA_ltoIntS d.1 hp
theorem c_ltoIntS : PContract Try.prog 123 (sumOf P_ltoIntS pre_ltoIntS g_ltoIntS) := PContract.of_data true G9 (fn := Try.f123) (by kernel_rfl) (L := fun b => match b with | 0 => say_ltoIntS_0 | _ => fun _ => none) (by rw [show loopsIn 0 (bodyOf Try.f123) = [(0, body_ltoIntS_0)] by kernel_rfl]; intro p hp; simp only [List.mem_singleton] at hp; subst hp; exact lw_ltoIntS_0) P_ltoIntS pre_ltoIntS g_ltoIntS run_ltoIntS
noncomputable def S10 : Tab := Tab.add S9 123 (lift (sumOf P_ltoIntS pre_ltoIntS g_ltoIntS))
noncomputable def QF10 : FuncId → Bool := qadd QF9 123
theorem G10 : Good Try.prog tt S10 QF10 := G9.addQ c_ltoIntS ⟨Try.f123, by kernel_rfl, by kernel_rfl, by kernel_rfl⟩ (fun _ => rfl)

/-! 89 loop.example/g00244/laws.toJob -/
noncomputable abbrev P_ltoJob : List PSh := [.agg [(.int .i64), (.sl (.pair (.int .i64) (.pair .str .str))), (.int .i64), (.sl (.int .i64))]]
noncomputable def ltoJob (a0 : Int) (a1 : List (Int × ByteArray × ByteArray)) (a2 : Int) (a3 : List Int) : Int × (List (Int × ByteArray × ByteArray)) × Int × List Int := (a0, (ltoOpS a1), a2, (ltoIntS a3))
noncomputable abbrev e_ltoJob (r : Int × (List (Int × ByteArray × ByteArray)) × Int × List Int) : AV × List AObj := ((.agg [(.t true (.int .i64) r.1), (.t true (.sl (.pair (.int .i64) (.pair .str .str))) r.2.1), (.t true (.int .i64) r.2.2.1), (.t true (.sl (.int .i64)) r.2.2.2)]), [])
noncomputable abbrev g_ltoJob : pshsDen P_ltoJob → AV × List AObj := fun d => e_ltoJob (ltoJob d.1.1 d.1.2.1 d.1.2.2.1 d.1.2.2.2.1)
noncomputable def q_ltoJob (a0 : Int) (a1 : List (Int × ByteArray × ByteArray)) (a2 : Int) (a3 : List Int) : Bool := (q_ltoOpS a1) && (q_ltoIntS a3)
noncomputable abbrev pre_ltoJob : pshsDen P_ltoJob → Bool := fun d => q_ltoJob d.1.1 d.1.2.1 d.1.2.2.1 d.1.2.2.2.1
theorem runA_ltoJob (a0 : Int) (a1 : List (Int × ByteArray × ByteArray)) (a2 : Int) (a3 : List Int) (hp : ((q_ltoOpS a1) && (q_ltoIntS a3)) = true) : runP true Try.prog tt S10 QF10 (fun _ _ => none) Try.f89 (argsMk P_ltoJob ((a0, (a1, (a2, (a3, ())))), ())) = some (g_ltoJob ((a0, (a1, (a2, (a3, ())))), ())) := by
  refine Eq.trans (b := (cond (q_ltoOpS a1) (cond (q_ltoIntS a3) (some (e_ltoJob (a0, (ltoOpS a1), a2, (ltoIntS a3)))) none) none)) (by kernel_rfl) ?_
  exact (cndT (andL hp) (fun _h => (fun hp => (cndT hp (fun _h => rfl))) (andR hp)))
theorem run_ltoJob : ∀ d, pre_ltoJob d = true → runP true Try.prog tt S10 QF10 (fun _ _ => none) Try.f89 (argsMk P_ltoJob d) = some (g_ltoJob d) := fun d hp => runA_ltoJob d.1.1 d.1.2.1 d.1.2.2.1 d.1.2.2.2.1 hp
theorem c_ltoJob : PContract Try.prog 89 (sumOf P_ltoJob pre_ltoJob g_ltoJob) := PContract.of_data true G10 (fn := Try.f89) (by kernel_rfl) (L := fun _ _ => none) (by rw [show loopsIn 0 (bodyOf Try.f89) = [] by kernel_rfl]; simp) P_ltoJob pre_ltoJob g_ltoJob run_ltoJob
noncomputable def S11 : Tab := Tab.add S10 89 (lift (sumOf P_ltoJob pre_ltoJob g_ltoJob))
noncomputable def QF11 : FuncId → Bool := qadd QF10 89
theorem G11 : Good Try.prog tt S11 QF11 := G10.addQ c_ltoJob ⟨Try.f89, by kernel_rfl, by kernel_rfl, by kernel_rfl⟩ (fun _ => rfl)

/-! 45 loop.example/g00244/laws.toJobS -/
noncomputable abbrev P_ltoJobS : List PSh := [.t (.sl (.pair (.int .i64) (.pair (.sl (.pair (.int .i64) (.pair .str .str))) (.pair (.int .i64) (.sl (.int .i64))))))]
noncomputable abbrev S_ltoJobS_0 : SS := ⟨[.t false (.sl (.pair (.int .i64) (.pair (.sl (.pair (.int .i64) (.pair .str .str))) (.pair (.int .i64) (.sl (.int .i64)))))), .junk, .junk, .all 0 4, .t true (.int .i64), .junk, .junk, .junk, .junk, .junk, .junk, .junk, .junk, .junk, .junk, .junk, .junk, .junk, .junk, .junk, .junk, .junk, .junk], [.rows 48 true (.pair (.int .i64) (.pair (.sl (.pair (.int .i64) (.pair .str .str))) (.pair (.int .i64) (.sl (.int .i64)))))]⟩
noncomputable abbrev E_ltoJobS_0_0 : SS := ⟨[.junk, .junk, .junk, .all 0 4, .junk, .junk, .junk, .junk, .junk, .junk, .junk, .junk, .junk, .junk, .junk, .junk, .junk, .junk, .junk, .junk, .junk, .junk, .junk], [.rows 48 true (.pair (.int .i64) (.pair (.sl (.pair (.int .i64) (.pair .str .str))) (.pair (.int .i64) (.sl (.int .i64)))))]⟩
noncomputable def st_ltoJobS_0 (x0 : List (Int × (List (Int × ByteArray × ByteArray)) × Int × List Int)) (x4 : Int) (h0 : List (Int × (List (Int × ByteArray × ByteArray)) × Int × List Int)) : RT S_ltoJobS_0.den := (.br (decide (x4 < ((x0.length : Nat) : Int))) (.br (decide (0 ≤ x4 ∧ x4 < ((x0.length : Nat) : Int))) (.br (q_ltoJob ((x0.getD x4.toNat ((0 : Int), ([], ((0 : Int), [])))).1) (((x0.getD x4.toNat ((0 : Int), ([], ((0 : Int), [])))).2).1) ((((x0.getD x4.toNat ((0 : Int), ([], ((0 : Int), [])))).2).2).1) ((((x0.getD x4.toNat ((0 : Int), ([], ((0 : Int), [])))).2).2).2)) (.br (decide (0 ≤ x4 ∧ x4 < ((h0.length : Nat) : Int))) (.next ((x0, (), (), (), IntKind.wrap .i64 (x4 + (1 : Int)), (), (), (), (), (), (), (), (), (), (), (), (), (), (), (), (), (), (), ()), (h0.set x4.toNat (((ltoJob ((x0.getD x4.toNat ((0 : Int), ([], ((0 : Int), [])))).1) (((x0.getD x4.toNat ((0 : Int), ([], ((0 : Int), [])))).2).1) ((((x0.getD x4.toNat ((0 : Int), ([], ((0 : Int), [])))).2).2).1) ((((x0.getD x4.toNat ((0 : Int), ([], ((0 : Int), [])))).2).2).2)).1), (((ltoJob ((x0.getD x4.toNat ((0 : Int), ([], ((0 : Int), [])))).1) (((x0.getD x4.toNat ((0 : Int), ([], ((0 : Int), [])))).2).1) ((((x0.getD x4.toNat ((0 : Int), ([], ((0 : Int), [])))).2).2).1) ((((x0.getD x4.toNat ((0 : Int), ([], ((0 : Int), [])))).2).2).2)).2.1), (((ltoJob ((x0.getD x4.toNat ((0 : Int), ([], ((0 : Int), [])))).1) (((x0.getD x4.toNat ((0 : Int), ([], ((0 : Int), [])))).2).1) ((((x0.getD x4.toNat ((0 : Int), ([], ((0 : Int), [])))).2).2).1) ((((x0.getD x4.toNat ((0 : Int), ([], ((0 : Int), [])))).2).2).2)).2.2.1), ((ltoJob ((x0.getD x4.toNat ((0 : Int), ([], ((0 : Int), [])))).1) (((x0.getD x4.toNat ((0 : Int), ([], ((0 : Int), [])))).2).1) ((((x0.getD x4.toNat ((0 : Int), ([], ((0 : Int), [])))).2).2).1) ((((x0.getD x4.toNat ((0 : Int), ([], ((0 : Int), [])))).2).2).2)).2.2.2)))), ()))) .fail) .fail) .fail) (.done (.exit 0) E_ltoJobS_0_0 (((), (), (), (), (), (), (), (), (), (), (), (), (), (), (), (), (), (), (), (), (), (), (), ()), (h0, ()))))
noncomputable abbrev V_ltoJobS_0 := (List (Int × (List (Int × ByteArray × ByteArray)) × Int × List Int)) × (Int) × (List (Int × (List (Int × ByteArray × ByteArray)) × Int × List Int))
noncomputable abbrev A_ltoJobS_0 := Nat × (List (Int × (List (Int × ByteArray × ByteArray)) × Int × List Int))
noncomputable def fl_ltoJobS_0 : A_ltoJobS_0 := (99, ([] : List (Int × (List (Int × ByteArray × ByteArray)) × Int × List Int)))
noncomputable def ss_ltoJobS_0 (x0 : List (Int × (List (Int × ByteArray × ByteArray)) × Int × List Int)) (x4 : Int) (h0 : List (Int × (List (Int × ByteArray × ByteArray)) × Int × List Int)) : V_ltoJobS_0 ⊕ A_ltoJobS_0 := (cond (decide (x4 < ((x0.length : Nat) : Int))) (cond (decide (0 ≤ x4 ∧ x4 < ((x0.length : Nat) : Int))) (cond (q_ltoJob ((x0.getD x4.toNat ((0 : Int), ([], ((0 : Int), [])))).1) (((x0.getD x4.toNat ((0 : Int), ([], ((0 : Int), [])))).2).1) ((((x0.getD x4.toNat ((0 : Int), ([], ((0 : Int), [])))).2).2).1) ((((x0.getD x4.toNat ((0 : Int), ([], ((0 : Int), [])))).2).2).2)) (cond (decide (0 ≤ x4 ∧ x4 < ((h0.length : Nat) : Int))) (.inl (x0, IntKind.wrap .i64 (x4 + (1 : Int)), h0.set x4.toNat (((ltoJob ((x0.getD x4.toNat ((0 : Int), ([], ((0 : Int), [])))).1) (((x0.getD x4.toNat ((0 : Int), ([], ((0 : Int), [])))).2).1) ((((x0.getD x4.toNat ((0 : Int), ([], ((0 : Int), [])))).2).2).1) ((((x0.getD x4.toNat ((0 : Int), ([], ((0 : Int), [])))).2).2).2)).1), (((ltoJob ((x0.getD x4.toNat ((0 : Int), ([], ((0 : Int), [])))).1) (((x0.getD x4.toNat ((0 : Int), ([], ((0 : Int), [])))).2).1) ((((x0.getD x4.toNat ((0 : Int), ([], ((0 : Int), [])))).2).2).1) ((((x0.getD x4.toNat ((0 : Int), ([], ((0 : Int), [])))).2).2).2)).2.1), (((ltoJob ((x0.getD x4.toNat ((0 : Int), ([], ((0 : Int), [])))).1) (((x0.getD x4.toNat ((0 : Int), ([], ((0 : Int), [])))).2).1) ((((x0.getD x4.toNat ((0 : Int), ([], ((0 : Int), [])))).2).2).1) ((((x0.getD x4.toNat ((0 : Int), ([], ((0 : Int), [])))).2).2).2)).2.2.1), ((ltoJob ((x0.getD x4.toNat ((0 : Int), ([], ((0 : Int), [])))).1) (((x0.getD x4.toNat ((0 : Int), ([], ((0 : Int), [])))).2).1) ((((x0.getD x4.toNat ((0 : Int), ([], ((0 : Int), [])))).2).2).1) ((((x0.getD x4.toNat ((0 : Int), ([], ((0 : Int), [])))).2).2).2)).2.2.2)))))) (.inr fl_ltoJobS_0)) (.inr fl_ltoJobS_0)) (.inr fl_ltoJobS_0)) (.inr (0, h0)))
noncomputable def it_ltoJobS_0 (x0 : List (Int × (List (Int × ByteArray × ByteArray)) × Int × List Int)) (x4 : Int) (h0 : List (Int × (List (Int × ByteArray × ByteArray)) × Int × List Int)) : A_ltoJobS_0 := itX (fun v : V_ltoJobS_0 => ss_ltoJobS_0 v.1 v.2.1 v.2.2) fl_ltoJobS_0 (x0, x4, h0)
noncomputable def ct_ltoJobS_0 (a : A_ltoJobS_0) : CT := (.br (a.1 == 0) (.done (.exit 0) E_ltoJobS_0_0 (((), (), (), (), (), (), (), (), (), (), (), (), (), (), (), (), (), (), (), (), (), (), (), ()), (a.2, ()))) .fail)
noncomputable def T_ltoJobS_0 (x0 : List (Int × (List (Int × ByteArray × ByteArray)) × Int × List Int)) (x4 : Int) (h0 : List (Int × (List (Int × ByteArray × ByteArray)) × Int × List Int)) : CT := ct_ltoJobS_0 (it_ltoJobS_0 x0 x4 h0)
noncomputable abbrev sp_ltoJobS_0 : S_ltoJobS_0.den → RT S_ltoJobS_0.den := fun d => st_ltoJobS_0 d.1.1 d.1.2.2.2.2.1 d.2.1
noncomputable abbrev pk_ltoJobS_0 (x0 : List (Int × (List (Int × ByteArray × ByteArray)) × Int × List Int)) (x4 : Int) (h0 : List (Int × (List (Int × ByteArray × ByteArray)) × Int × List Int)) : S_ltoJobS_0.den := ((x0, (), (), (), x4, (), (), (), (), (), (), (), (), (), (), (), (), (), (), (), (), (), (), ()), (h0, ()))
noncomputable def body_ltoJobS_0 : Code := ((loopsIn 0 (bodyOf Try.f45)).getD 0 (0, .skip)).2
theorem R_ltoJobS_0 (x0 : List (Int × (List (Int × ByteArray × ByteArray)) × Int × List Int)) (x4 : Int) (h0 : List (Int × (List (Int × ByteArray × ByteArray)) × Int × List Int)) : (T_ltoJobS_0 x0 x4 h0).val (D := S_ltoJobS_0.den) = .fail ∨ Runs sp_ltoJobS_0 (pk_ltoJobS_0 x0 x4 h0) (T_ltoJobS_0 x0 x4 h0).val := Runs.ofIt (step := sp_ltoJobS_0) (fun v : V_ltoJobS_0 => pk_ltoJobS_0 v.1 v.2.1 v.2.2) (ct := ct_ltoJobS_0) rfl (fun v => ((relB (relB (relB (relB rfl rfl) rfl) rfl) rfl) : (st_ltoJobS_0 v.1 v.2.1 v.2.2).val = relS (fun v : V_ltoJobS_0 => pk_ltoJobS_0 v.1 v.2.1 v.2.2) ct_ltoJobS_0 (ss_ltoJobS_0 v.1 v.2.1 v.2.2))) (fun a => ((cendB (cendD (by simp)) cendF) : CEnd _ (ct_ltoJobS_0 a))) (x0, x4, h0)
theorem rd_ltoJobS_0 : ∀ d, execC Try.prog tt S11 QF11 (fun _ _ => none) 0 body_ltoJobS_0 (S_ltoJobS_0.st d 0 []) (fun e s' => some (e, S_ltoJobS_0.cutE (kepts [] [(0, [3])]) e s')) = (sp_ltoJobS_0 d).opt 0 [] := by
  intro d
  kernel_rfl
noncomputable abbrev say_ltoJobS_0 : St → Option Tree := S_ltoJobS_0.say 0 [] [] (fun d => T_ltoJobS_0 d.1.1 d.1.2.2.2.2.1 d.2.1)
theorem lw_ltoJobS_0 : LoopWp Try.prog say_ltoJobS_0 body_ltoJobS_0 := SS.wp G11 (fun _ _ => none) (by rw [show loopsIn 0 body_ltoJobS_0 = [] by kernel_rfl]; simp) S_ltoJobS_0 0 [] (kepts [] [(0, [3])]) [] sp_ltoJobS_0 rd_ltoJobS_0 _ (fun d => R_ltoJobS_0 d.1.1 d.1.2.2.2.2.1 d.2.1)
noncomputable def ltoJobS (a0 : List (Int × (List (Int × ByteArray × ByteArray)) × Int × List Int)) : List (Int × (List (Int × ByteArray × ByteArray)) × Int × List Int) := ((it_ltoJobS_0 a0 (0 : Int) (List.replicate ((a0.length : Nat) : Int).toNat ((0 : Int), ([], ((0 : Int), []))))).2)
noncomputable abbrev e_ltoJobS (r : List (Int × (List (Int × ByteArray × ByteArray)) × Int × List Int)) : AV × List AObj := ((.t true (.sl (.pair (.int .i64) (.pair (.sl (.pair (.int .i64) (.pair .str .str))) (.pair (.int .i64) (.sl (.int .i64)))))) r), [])
noncomputable abbrev g_ltoJobS : pshsDen P_ltoJobS → AV × List AObj := fun d => e_ltoJobS (ltoJobS d.1)
noncomputable def q_ltoJobS (a0 : List (Int × (List (Int × ByteArray × ByteArray)) × Int × List Int)) : Bool := (decide (0 ≤ ((a0.length : Nat) : Int) ∧ ((a0.length : Nat) : Int) = ((a0.length : Nat) : Int) ∧ ((a0.length : Nat) : Int).toNat * 64 ≤ MAXB ∧ ((a0.length : Nat) : Int) ≤ 9223372036854775807)) && ((it_ltoJobS_0 a0 (0 : Int) (List.replicate ((a0.length : Nat) : Int).toNat ((0 : Int), ([], ((0 : Int), []))))).1 == 0)
noncomputable abbrev pre_ltoJobS : pshsDen P_ltoJobS → Bool := fun d => q_ltoJobS d.1
theorem runA_ltoJobS (a0 : List (Int × (List (Int × ByteArray × ByteArray)) × Int × List Int)) (hp : ((decide (0 ≤ ((a0.length : Nat) : Int) ∧ ((a0.length : Nat) : Int) = ((a0.length : Nat) : Int) ∧ ((a0.length : Nat) : Int).toNat * 64 ≤ MAXB ∧ ((a0.length : Nat) : Int) ≤ 9223372036854775807)) && ((it_ltoJobS_0 a0 (0 : Int) (List.replicate ((a0.length : Nat) : Int).toNat ((0 : Int), ([], ((0 : Int), []))))).1 == 0)) = true) : runP true Try.prog tt S11 QF11 (fun b => match b with | 0 => say_ltoJobS_0 | _ => fun _ => none) Try.f45 (argsMk P_ltoJobS (a0, ())) = some (g_ltoJobS (a0, ())) := by
  refine Eq.trans (b := (cond (decide (0 ≤ ((a0.length : Nat) : Int) ∧ ((a0.length : Nat) : Int) = ((a0.length : Nat) : Int) ∧ ((a0.length : Nat) : Int).toNat * 64 ≤ MAXB ∧ ((a0.length : Nat) : Int) ≤ 9223372036854775807)) (cond ((it_ltoJobS_0 a0 (0 : Int) (List.replicate ((a0.length : Nat) : Int).toNat ((0 : Int), ([], ((0 : Int), []))))).1 == 0) (some (e_ltoJobS ((it_ltoJobS_0 a0 (0 : Int) (List.replicate ((a0.length : Nat) : Int).toNat ((0 : Int), ([], ((0 : Int), []))))).2))) none) none)) (by kernel_rfl) ?_
  exact (cndT (andL hp) (fun _h => (fun hp => (cndT hp (fun _h => rfl))) (andR hp)))
theorem run_ltoJobS : ∀ d, pre_ltoJobS d = true → runP true Try.prog tt S11 QF11 (fun b => match b with | 0 => say_ltoJobS_0 | _ => fun _ => none) Try.f45 (argsMk P_ltoJobS d) = some (g_ltoJobS d) := fun d hp => runA_ltoJobS d.1 hp
theorem c_ltoJobS : PContract Try.prog 45 (sumOf P_ltoJobS pre_ltoJobS g_ltoJobS) := PContract.of_data true G11 (fn := Try.f45) (by kernel_rfl) (L := fun b => match b with | 0 => say_ltoJobS_0 | _ => fun _ => none) (by rw [show loopsIn 0 (bodyOf Try.f45) = [(0, body_ltoJobS_0)] by kernel_rfl]; intro p hp; simp only [List.mem_singleton] at hp; subst hp; exact lw_ltoJobS_0) P_ltoJobS pre_ltoJobS g_ltoJobS run_ltoJobS
noncomputable def S12 : Tab := Tab.add S11 45 (lift (sumOf P_ltoJobS pre_ltoJobS g_ltoJobS))
noncomputable def QF12 : FuncId → Bool := qadd QF11 45
theorem G12 : Good Try.prog tt S12 QF12 := G11.addQ c_ltoJobS ⟨Try.f45, by kernel_rfl, by kernel_rfl, by kernel_rfl⟩ (fun _ => rfl)

/-! 90 loop.example/g00244/laws.toChoice -/
noncomputable abbrev P_ltoChoice : List PSh := [.agg [(.int .i64), .bool]]
noncomputable def ltoChoice (a0 : Int) (a1 : Bool) : Int × Bool := (a0, a1)
noncomputable abbrev e_ltoChoice (r : Int × Bool) : AV × List AObj := ((.agg [(.t true (.int .i64) r.1), (.t true .bool r.2)]), [])
noncomputable abbrev g_ltoChoice : pshsDen P_ltoChoice → AV × List AObj := fun d => e_ltoChoice (ltoChoice d.1.1 d.1.2.1)
noncomputable abbrev pre_ltoChoice : pshsDen P_ltoChoice → Bool := fun d => true
theorem runA_ltoChoice (a0 : Int) (a1 : Bool) : runP true Try.prog tt S12 QF12 (fun _ _ => none) Try.f90 (argsMk P_ltoChoice ((a0, (a1, ())), ())) = some (g_ltoChoice ((a0, (a1, ())), ())) := by
  kernel_rfl
theorem run_ltoChoice : ∀ d, pre_ltoChoice d = true → runP true Try.prog tt S12 QF12 (fun _ _ => none) Try.f90 (argsMk P_ltoChoice d) = some (g_ltoChoice d) := fun d hp => runA_ltoChoice d.1.1 d.1.2.1
theorem c_ltoChoice : PContract Try.prog 90 (sumOf P_ltoChoice pre_ltoChoice g_ltoChoice) := PContract.of_data true G12 (fn := Try.f90) (by kernel_rfl) (L := fun _ _ => none) (by rw [show loopsIn 0 (bodyOf Try.f90) = [] by kernel_rfl]; simp) P_ltoChoice pre_ltoChoice g_ltoChoice run_ltoChoice
noncomputable def S13 : Tab := Tab.add S12 90 (lift (sumOf P_ltoChoice pre_ltoChoice g_ltoChoice))
noncomputable def QF13 : FuncId → Bool := qadd QF12 90
theorem G13 : Good Try.prog tt S13 QF13 := G12.addQ c_ltoChoice ⟨Try.f90, by kernel_rfl, by kernel_rfl, by kernel_rfl⟩ (fun _ => rfl)

/-! 46 loop.example/g00244/laws.toChoiceS -/
noncomputable def f_ltoChoiceS_0 (x0 : List (Int × Bool)) (i : Nat) : Int × Bool := (((ltoChoice ((x0.getD i ((0 : Int), false)).1) ((x0.getD i ((0 : Int), false)).2)).1), ((ltoChoice ((x0.getD i ((0 : Int), false)).1) ((x0.getD i ((0 : Int), false)).2)).2))
noncomputable abbrev P_ltoChoiceS : List PSh := [.t (.sl (.pair (.int .i64) .bool))]
noncomputable abbrev S_ltoChoiceS_0 : SS := ⟨[.t false (.sl (.pair (.int .i64) .bool)), .junk, .junk, .all 0 2, .t true (.int .i64), .junk, .junk, .junk, .junk, .junk, .junk, .junk, .junk, .junk, .junk, .junk, .junk, .junk, .junk, .junk, .junk, .junk, .junk], [.rows 43 true (.pair (.int .i64) .bool)]⟩
noncomputable abbrev E_ltoChoiceS_0_0 : SS := ⟨[.junk, .junk, .junk, .all 0 2, .junk, .junk, .junk, .junk, .junk, .junk, .junk, .junk, .junk, .junk, .junk, .junk, .junk, .junk, .junk, .junk, .junk, .junk, .junk], [.rows 43 true (.pair (.int .i64) .bool)]⟩
noncomputable def st_ltoChoiceS_0 (x0 : List (Int × Bool)) (x4 : Int) (h0 : List (Int × Bool)) : RT S_ltoChoiceS_0.den := (.br (decide (x4 < ((x0.length : Nat) : Int))) (.br (decide (0 ≤ x4 ∧ x4 < ((x0.length : Nat) : Int))) (.br (decide (0 ≤ x4 ∧ x4 < ((h0.length : Nat) : Int))) (.next ((x0, (), (), (), IntKind.wrap .i64 (x4 + (1 : Int)), (), (), (), (), (), (), (), (), (), (), (), (), (), (), (), (), (), (), ()), (h0.set x4.toNat (((ltoChoice ((x0.getD x4.toNat ((0 : Int), false)).1) ((x0.getD x4.toNat ((0 : Int), false)).2)).1), ((ltoChoice ((x0.getD x4.toNat ((0 : Int), false)).1) ((x0.getD x4.toNat ((0 : Int), false)).2)).2)), ()))) .fail) .fail) (.done (.exit 0) E_ltoChoiceS_0_0 (((), (), (), (), (), (), (), (), (), (), (), (), (), (), (), (), (), (), (), (), (), (), (), ()), (h0, ()))))
noncomputable def T_ltoChoiceS_0 (x0 : List (Int × Bool)) (x4 : Int) (h0 : List (Int × Bool)) : CT := (.br (decide (0 ≤ x4) && (decide (h0.length = x0.length) && okL x0)) (.done (.exit 0) E_ltoChoiceS_0_0 (((), (), (), (), (), (), (), (), (), (), (), (), (), (), (), (), (), (), (), (), (), (), (), ()), ((foldN (fun i h => h.set i (f_ltoChoiceS_0 x0 i)) (x0.length - x4.toNat) x4.toNat h0), ()))) .fail)
noncomputable abbrev sp_ltoChoiceS_0 : S_ltoChoiceS_0.den → RT S_ltoChoiceS_0.den := fun d => st_ltoChoiceS_0 d.1.1 d.1.2.2.2.2.1 d.2.1
noncomputable abbrev pk_ltoChoiceS_0 (x0 : List (Int × Bool)) (x4 : Int) (h0 : List (Int × Bool)) : S_ltoChoiceS_0.den := ((x0, (), (), (), x4, (), (), (), (), (), (), (), (), (), (), (), (), (), (), (), (), (), (), ()), (h0, ()))
noncomputable def body_ltoChoiceS_0 : Code := ((loopsIn 0 (bodyOf Try.f46)).getD 0 (0, .skip)).2
theorem R_ltoChoiceS_0 (x0 : List (Int × Bool)) (x4 : Int) (h0 : List (Int × Bool)) : (T_ltoChoiceS_0 x0 x4 h0).val (D := S_ltoChoiceS_0.den) = .fail ∨ Runs sp_ltoChoiceS_0 (pk_ltoChoiceS_0 x0 x4 h0) (T_ltoChoiceS_0 x0 x4 h0).val := by
  cases hc : (decide (0 ≤ x4) && (decide (h0.length = x0.length) && okL x0)) with
  | false => left; simp only [T_ltoChoiceS_0, CT.val, hc, cond_false]
  | true =>
    right
    simp only [T_ltoChoiceS_0, CT.val, hc, cond_true]
    simp only [Bool.and_eq_true, decide_eq_true_eq] at hc
    obtain ⟨i, rfl⟩ := Int.eq_ofNat_of_zero_le hc.1
    have hs := okL_le hc.2.2
    simp only [Int.toNat_natCast]
    refine Runs.foldN (step := sp_ltoChoiceS_0) (fun j b => pk_ltoChoiceS_0 x0 (j : Int) b) (fun _ b => b.length = x0.length) (x0.length) (fun i h => h.set i (f_ltoChoiceS_0 x0 i))
      (fin := fun b => ((.done (.exit 0) E_ltoChoiceS_0_0 (((), (), (), (), (), (), (), (), (), (), (), (), (), (), (), (), (), (), (), (), (), (), (), ()), (b, ()))) : CT).val) (fun i b hi hb => ⟨by simpa using hb, ?_⟩) (fun i b hi hb => ?_) (x0.length - i) i h0 rfl hc.2.1
    · 
      have h0a : decide ((i : Int) < ((x0.length : Nat) : Int)) = true := decide_eq_true (by omega)
      have h0b : decide (0 ≤ (i : Int) ∧ (i : Int) < ((x0.length : Nat) : Int)) = true := decide_eq_true (by omega)
      have h9 : decide (0 ≤ (i : Int) ∧ (i : Int) < ((b.length : Nat) : Int)) = true := decide_eq_true (by omega)
      simp only [sp_ltoChoiceS_0, st_ltoChoiceS_0, RT.val, h0a, h0b, h9, cond_true, wrapS i (by omega), Int.toNat_natCast]
      rfl
    · have h1 : decide ((i : Int) < ((x0.length : Nat) : Int)) = false := decide_eq_false (by omega)
      exact ⟨by simp only [sp_ltoChoiceS_0, st_ltoChoiceS_0, RT.val, h1, cond_false]; rfl, _, _, _, rfl, by simp⟩
theorem rd_ltoChoiceS_0 : ∀ d, execC Try.prog tt S13 QF13 (fun _ _ => none) 0 body_ltoChoiceS_0 (S_ltoChoiceS_0.st d 0 []) (fun e s' => some (e, S_ltoChoiceS_0.cutE (kepts [] [(0, [3])]) e s')) = (sp_ltoChoiceS_0 d).opt 0 [] := by
  intro d
  kernel_rfl
noncomputable abbrev say_ltoChoiceS_0 : St → Option Tree := S_ltoChoiceS_0.say 0 [] [] (fun d => T_ltoChoiceS_0 d.1.1 d.1.2.2.2.2.1 d.2.1)
theorem lw_ltoChoiceS_0 : LoopWp Try.prog say_ltoChoiceS_0 body_ltoChoiceS_0 := SS.wp G13 (fun _ _ => none) (by rw [show loopsIn 0 body_ltoChoiceS_0 = [] by kernel_rfl]; simp) S_ltoChoiceS_0 0 [] (kepts [] [(0, [3])]) [] sp_ltoChoiceS_0 rd_ltoChoiceS_0 _ (fun d => R_ltoChoiceS_0 d.1.1 d.1.2.2.2.2.1 d.2.1)
noncomputable def ltoChoiceS (a0 : List (Int × Bool)) : List (Int × Bool) := (foldN (fun i h => h.set i (f_ltoChoiceS_0 a0 i)) (a0.length - (0 : Int).toNat) (0 : Int).toNat (List.replicate ((a0.length : Nat) : Int).toNat ((0 : Int), false)))
noncomputable abbrev e_ltoChoiceS (r : List (Int × Bool)) : AV × List AObj := ((.t true (.sl (.pair (.int .i64) .bool)) r), [])
noncomputable abbrev g_ltoChoiceS : pshsDen P_ltoChoiceS → AV × List AObj := fun d => e_ltoChoiceS (ltoChoiceS d.1)
noncomputable def q_ltoChoiceS (a0 : List (Int × Bool)) : Bool := okL a0
noncomputable abbrev pre_ltoChoiceS : pshsDen P_ltoChoiceS → Bool := fun d => q_ltoChoiceS d.1
theorem runA_ltoChoiceS (a0 : List (Int × Bool)) (hp : (okL a0) = true) : runP true Try.prog tt S13 QF13 (fun b => match b with | 0 => say_ltoChoiceS_0 | _ => fun _ => none) Try.f46 (argsMk P_ltoChoiceS (a0, ())) = some (g_ltoChoiceS (a0, ())) := by
  refine Eq.trans (b := (cond (decide (0 ≤ ((a0.length : Nat) : Int) ∧ ((a0.length : Nat) : Int) = ((a0.length : Nat) : Int) ∧ ((a0.length : Nat) : Int).toNat * 16 ≤ MAXB ∧ ((a0.length : Nat) : Int) ≤ 9223372036854775807)) (cond (decide (0 ≤ (0 : Int)) && (decide ((List.replicate ((a0.length : Nat) : Int).toNat ((0 : Int), false)).length = a0.length) && okL a0)) (some (e_ltoChoiceS (foldN (fun i h => h.set i (f_ltoChoiceS_0 a0 i)) (a0.length - (0 : Int).toNat) (0 : Int).toNat (List.replicate ((a0.length : Nat) : Int).toNat ((0 : Int), false))))) none) none)) (by kernel_rfl) ?_
  exact (cndT (by first | rfl | decide | exact hp | (simp only [Bool.and_eq_true] at hp; simp only [hp]; done) | (simp [*]; done) | (simp [okL] at hp; simp [okL, MAXB]; omega) | (simp_all; done) | (simp at *; omega)) (fun _h => (cndT (by first | rfl | decide | exact hp | (simp only [Bool.and_eq_true] at hp; simp only [hp]; done) | (simp [*]; done) | (simp [okL] at hp; simp [okL, MAXB]; omega) | (simp_all; done) | (simp at *; omega)) (fun _h => rfl))))
theorem run_ltoChoiceS : ∀ d, pre_ltoChoiceS d = true → runP true Try.prog tt S13 QF13 (fun b => match b with | 0 => say_ltoChoiceS_0 | _ => fun _ => none) Try.f46 (argsMk P_ltoChoiceS d) = some (g_ltoChoiceS d) := fun d hp => runA_ltoChoiceS d.1 hp
theorem c_ltoChoiceS : PContract Try.prog 46 (sumOf P_ltoChoiceS pre_ltoChoiceS g_ltoChoiceS) := PContract.of_data true G13 (fn := Try.f46) (by kernel_rfl) (L := fun b => match b with | 0 => say_ltoChoiceS_0 | _ => fun _ => none) (by rw [show loopsIn 0 (bodyOf Try.f46) = [(0, body_ltoChoiceS_0)] by kernel_rfl]; intro p hp; simp only [List.mem_singleton] at hp; subst hp; exact lw_ltoChoiceS_0) P_ltoChoiceS pre_ltoChoiceS g_ltoChoiceS run_ltoChoiceS
noncomputable def S14 : Tab := Tab.add S13 46 (lift (sumOf P_ltoChoiceS pre_ltoChoiceS g_ltoChoiceS))
noncomputable def QF14 : FuncId → Bool := qadd QF13 46
theorem G14 : Good Try.prog tt S14 QF14 := G13.addQ c_ltoChoiceS ⟨Try.f46, by kernel_rfl, by kernel_rfl, by kernel_rfl⟩ (fun _ => rfl)

/-! 15 loop.example/g00244/laws.toCoord -/
noncomputable abbrev P_ltoCoord : List PSh := [.agg [(.int .i64), (.int .i64), (.int .i64), (.sl (.pair (.int .i64) (.pair (.sl (.pair (.int .i64) (.pair .str .str))) (.pair (.int .i64) (.sl (.int .i64)))))), (.sl (.pair (.int .i64) .bool)), (.int .i64)]]
noncomputable def ltoCoord (a0 : Int) (a1 : Int) (a2 : Int) (a3 : List (Int × (List (Int × ByteArray × ByteArray)) × Int × List Int)) (a4 : List (Int × Bool)) (a5 : Int) : Int × Int × Int × (List (Int × (List (Int × ByteArray × ByteArray)) × Int × List Int)) × (List (Int × Bool)) × Int := (a0, a1, a2, (ltoJobS a3), (ltoChoiceS a4), a5)
noncomputable abbrev e_ltoCoord (r : Int × Int × Int × (List (Int × (List (Int × ByteArray × ByteArray)) × Int × List Int)) × (List (Int × Bool)) × Int) : AV × List AObj := ((.agg [(.t true (.int .i64) r.1), (.t true (.int .i64) r.2.1), (.t true (.int .i64) r.2.2.1), (.t true (.sl (.pair (.int .i64) (.pair (.sl (.pair (.int .i64) (.pair .str .str))) (.pair (.int .i64) (.sl (.int .i64)))))) r.2.2.2.1), (.t true (.sl (.pair (.int .i64) .bool)) r.2.2.2.2.1), (.t true (.int .i64) r.2.2.2.2.2)]), [])
noncomputable abbrev g_ltoCoord : pshsDen P_ltoCoord → AV × List AObj := fun d => e_ltoCoord (ltoCoord d.1.1 d.1.2.1 d.1.2.2.1 d.1.2.2.2.1 d.1.2.2.2.2.1 d.1.2.2.2.2.2.1)
noncomputable def q_ltoCoord (a0 : Int) (a1 : Int) (a2 : Int) (a3 : List (Int × (List (Int × ByteArray × ByteArray)) × Int × List Int)) (a4 : List (Int × Bool)) (a5 : Int) : Bool := (q_ltoJobS a3) && (q_ltoChoiceS a4)
noncomputable abbrev pre_ltoCoord : pshsDen P_ltoCoord → Bool := fun d => q_ltoCoord d.1.1 d.1.2.1 d.1.2.2.1 d.1.2.2.2.1 d.1.2.2.2.2.1 d.1.2.2.2.2.2.1
theorem runA_ltoCoord (a0 : Int) (a1 : Int) (a2 : Int) (a3 : List (Int × (List (Int × ByteArray × ByteArray)) × Int × List Int)) (a4 : List (Int × Bool)) (a5 : Int) (hp : ((q_ltoJobS a3) && (q_ltoChoiceS a4)) = true) : runP true Try.prog tt S14 QF14 (fun _ _ => none) Try.f15 (argsMk P_ltoCoord ((a0, (a1, (a2, (a3, (a4, (a5, ())))))), ())) = some (g_ltoCoord ((a0, (a1, (a2, (a3, (a4, (a5, ())))))), ())) := by
  refine Eq.trans (b := (cond (q_ltoJobS a3) (cond (q_ltoChoiceS a4) (some (e_ltoCoord (a0, a1, a2, (ltoJobS a3), (ltoChoiceS a4), a5))) none) none)) (by kernel_rfl) ?_
  exact (cndT (andL hp) (fun _h => (fun hp => (cndT hp (fun _h => rfl))) (andR hp)))
theorem run_ltoCoord : ∀ d, pre_ltoCoord d = true → runP true Try.prog tt S14 QF14 (fun _ _ => none) Try.f15 (argsMk P_ltoCoord d) = some (g_ltoCoord d) := fun d hp => runA_ltoCoord d.1.1 d.1.2.1 d.1.2.2.1 d.1.2.2.2.1 d.1.2.2.2.2.1 d.1.2.2.2.2.2.1 hp
theorem c_ltoCoord : PContract Try.prog 15 (sumOf P_ltoCoord pre_ltoCoord g_ltoCoord) := PContract.of_data true G14 (fn := Try.f15) (by kernel_rfl) (L := fun _ _ => none) (by rw [show loopsIn 0 (bodyOf Try.f15) = [] by kernel_rfl]; simp) P_ltoCoord pre_ltoCoord g_ltoCoord run_ltoCoord
noncomputable def S15 : Tab := Tab.add S14 15 (lift (sumOf P_ltoCoord pre_ltoCoord g_ltoCoord))
noncomputable def QF15 : FuncId → Bool := qadd QF14 15
theorem G15 : Good Try.prog tt S15 QF15 := G14.addQ c_ltoCoord ⟨Try.f15, by kernel_rfl, by kernel_rfl, by kernel_rfl⟩ (fun _ => rfl)

/-! 42 loop.example/g00244/spec.l1In -/
noncomputable abbrev P_sl1In : List PSh := [.t (.int .i64), .t (.int .i64), .t (.int .i64)]
noncomputable def sl1In (a0 : Int) (a1 : Int) (a2 : Int) : Bool := (cond (decide (a0 ≥ a1)) (decide (a0 ≤ a2)) false)
noncomputable abbrev e_sl1In (r : Bool) : AV × List AObj := ((.t true .bool r), [])
noncomputable abbrev g_sl1In : pshsDen P_sl1In → AV × List AObj := fun d => e_sl1In (sl1In d.1 d.2.1 d.2.2.1)
noncomputable abbrev pre_sl1In : pshsDen P_sl1In → Bool := fun d => true
theorem runA_sl1In (a0 : Int) (a1 : Int) (a2 : Int) : runP true Try.prog tt S15 QF15 (fun _ _ => none) Try.f42 (argsMk P_sl1In (a0, (a1, (a2, ())))) = some (g_sl1In (a0, (a1, (a2, ())))) := by
  refine Eq.trans (b := (cond (decide (a0 ≥ a1)) (some (e_sl1In (decide (a0 ≤ a2)))) (some (e_sl1In false)))) (by kernel_rfl) ?_
  exact (cnd (F := fun r => some (e_sl1In r)) (fun _h => rfl) (fun _h => rfl))
theorem run_sl1In : ∀ d, pre_sl1In d = true → runP true Try.prog tt S15 QF15 (fun _ _ => none) Try.f42 (argsMk P_sl1In d) = some (g_sl1In d) := fun d hp => runA_sl1In d.1 d.2.1 d.2.2.1
theorem c_sl1In : PContract Try.prog 42 (sumOf P_sl1In pre_sl1In g_sl1In) := PContract.of_data true G15 (fn := Try.f42) (by kernel_rfl) (L := fun _ _ => none) (by rw [show loopsIn 0 (bodyOf Try.f42) = [] by kernel_rfl]; simp) P_sl1In pre_sl1In g_sl1In run_sl1In
noncomputable def S16 : Tab := Tab.add S15 42 (lift (sumOf P_sl1In pre_sl1In g_sl1In))
noncomputable def QF16 : FuncId → Bool := qadd QF15 42
theorem G16 : Good Try.prog tt S16 QF16 := G15.addQ c_sl1In ⟨Try.f42, by kernel_rfl, by kernel_rfl, by kernel_rfl⟩ (fun _ => rfl)

/-! 43 loop.example/g00244/spec.l11Chosen -/
noncomputable abbrev P_sl11Chosen : List PSh := [.agg [(.int .i64), (.int .i64), (.int .i64), (.sl (.pair (.int .i64) (.pair (.sl (.pair (.int .i64) (.pair .str .str))) (.pair (.int .i64) (.sl (.int .i64)))))), (.sl (.pair (.int .i64) .bool)), (.int .i64)], .t (.int .i64)]
noncomputable abbrev S_sl11Chosen_0 : SS := ⟨[.junk, .t true (.int .i64), .ptr 0 0 1 0, .junk, .junk, .t true (.int .i64), .junk, .junk, .junk, .junk, .junk, .junk, .junk, .junk, .junk, .junk, .junk, .junk, .junk, .junk, .junk, .junk], [.box [.t true (.int .i64), .t true (.int .i64), .t true (.int .i64), .t false (.sl (.pair (.int .i64) (.pair (.sl (.pair (.int .i64) (.pair .str .str))) (.pair (.int .i64) (.sl (.int .i64)))))), .t false (.sl (.pair (.int .i64) .bool)), .t true (.int .i64)]]⟩
noncomputable abbrev E_sl11Chosen_0_0 : SS := ⟨[.junk, .junk, .junk, .junk, .t true (.int .i64), .junk, .junk, .junk, .junk, .junk, .junk, .junk, .junk, .junk, .junk, .junk, .junk, .junk, .junk, .junk, .junk, .junk], []⟩
noncomputable abbrev E_sl11Chosen_0_1 : SS := ⟨[.junk, .junk, .junk, .junk, .junk, .junk, .junk, .junk, .junk, .junk, .junk, .junk, .junk, .junk, .junk, .junk, .junk, .junk, .junk, .junk, .junk, .junk], []⟩
noncomputable def st_sl11Chosen_0 (x1 : Int) (x5 : Int) (h0_0 : Int) (h0_1 : Int) (h0_2 : Int) (h0_3 : List (Int × (List (Int × ByteArray × ByteArray)) × Int × List Int)) (h0_4 : List (Int × Bool)) (h0_5 : Int) : RT S_sl11Chosen_0.den := (.br (decide (x5 < ((h0_4.length : Nat) : Int))) (.br (decide (0 ≤ x5 ∧ x5 < ((h0_4.length : Nat) : Int))) (.br (((h0_4.getD x5.toNat ((0 : Int), false)).1) == x1) (.done .ret E_sl11Chosen_0_0 (((), (), (), (), x5, (), (), (), (), (), (), (), (), (), (), (), (), (), (), (), (), (), ()), ())) (.next (((), x1, (), (), (), IntKind.wrap .i64 (x5 + (1 : Int)), (), (), (), (), (), (), (), (), (), (), (), (), (), (), (), (), ()), ((h0_0, h0_1, h0_2, h0_3, h0_4, h0_5, ()), ())))) .fail) (.done (.exit 0) E_sl11Chosen_0_1 (((), (), (), (), (), (), (), (), (), (), (), (), (), (), (), (), (), (), (), (), (), (), ()), ())))
noncomputable abbrev V_sl11Chosen_0 := (Int) × (Int)
noncomputable abbrev A_sl11Chosen_0 := Nat × (Int)
noncomputable def fl_sl11Chosen_0 : A_sl11Chosen_0 := (99, ((0 : Int) : Int))
noncomputable def ss_sl11Chosen_0 (x1 : Int) (x5 : Int) (h0_0 : Int) (h0_1 : Int) (h0_2 : Int) (h0_3 : List (Int × (List (Int × ByteArray × ByteArray)) × Int × List Int)) (h0_4 : List (Int × Bool)) (h0_5 : Int) : V_sl11Chosen_0 ⊕ A_sl11Chosen_0 := (cond (decide (x5 < ((h0_4.length : Nat) : Int))) (cond (decide (0 ≤ x5 ∧ x5 < ((h0_4.length : Nat) : Int))) (cond (((h0_4.getD x5.toNat ((0 : Int), false)).1) == x1) (.inr (0, x5)) (.inl (x1, IntKind.wrap .i64 (x5 + (1 : Int))))) (.inr fl_sl11Chosen_0)) (.inr (1, ((0 : Int) : Int))))
noncomputable def it_sl11Chosen_0 (x1 : Int) (x5 : Int) (h0_0 : Int) (h0_1 : Int) (h0_2 : Int) (h0_3 : List (Int × (List (Int × ByteArray × ByteArray)) × Int × List Int)) (h0_4 : List (Int × Bool)) (h0_5 : Int) : A_sl11Chosen_0 := itX (fun v : V_sl11Chosen_0 => ss_sl11Chosen_0 v.1 v.2 h0_0 h0_1 h0_2 h0_3 h0_4 h0_5) fl_sl11Chosen_0 (x1, x5)
noncomputable def ct_sl11Chosen_0 (h0_0 : Int) (h0_1 : Int) (h0_2 : Int) (h0_3 : List (Int × (List (Int × ByteArray × ByteArray)) × Int × List Int)) (h0_4 : List (Int × Bool)) (h0_5 : Int) (a : A_sl11Chosen_0) : CT := (.br (a.1 == 0) (.done .ret E_sl11Chosen_0_0 (((), (), (), (), a.2, (), (), (), (), (), (), (), (), (), (), (), (), (), (), (), (), (), ()), ())) (.br (a.1 == 1) (.done (.exit 0) E_sl11Chosen_0_1 (((), (), (), (), (), (), (), (), (), (), (), (), (), (), (), (), (), (), (), (), (), (), ()), ())) .fail))
noncomputable def T_sl11Chosen_0 (x1 : Int) (x5 : Int) (h0_0 : Int) (h0_1 : Int) (h0_2 : Int) (h0_3 : List (Int × (List (Int × ByteArray × ByteArray)) × Int × List Int)) (h0_4 : List (Int × Bool)) (h0_5 : Int) : CT := (ct_sl11Chosen_0 h0_0 h0_1 h0_2 h0_3 h0_4 h0_5) (it_sl11Chosen_0 x1 x5 h0_0 h0_1 h0_2 h0_3 h0_4 h0_5)
noncomputable abbrev sp_sl11Chosen_0 : S_sl11Chosen_0.den → RT S_sl11Chosen_0.den := fun d => st_sl11Chosen_0 d.1.2.1 d.1.2.2.2.2.2.1 d.2.1.1 d.2.1.2.1 d.2.1.2.2.1 d.2.1.2.2.2.1 d.2.1.2.2.2.2.1 d.2.1.2.2.2.2.2.1
noncomputable abbrev pk_sl11Chosen_0 (x1 : Int) (x5 : Int) (h0_0 : Int) (h0_1 : Int) (h0_2 : Int) (h0_3 : List (Int × (List (Int × ByteArray × ByteArray)) × Int × List Int)) (h0_4 : List (Int × Bool)) (h0_5 : Int) : S_sl11Chosen_0.den := (((), x1, (), (), (), x5, (), (), (), (), (), (), (), (), (), (), (), (), (), (), (), (), ()), ((h0_0, h0_1, h0_2, h0_3, h0_4, h0_5, ()), ()))
noncomputable def body_sl11Chosen_0 : Code := ((loopsIn 0 (bodyOf Try.f43)).getD 0 (0, .skip)).2
theorem R_sl11Chosen_0 (x1 : Int) (x5 : Int) (h0_0 : Int) (h0_1 : Int) (h0_2 : Int) (h0_3 : List (Int × (List (Int × ByteArray × ByteArray)) × Int × List Int)) (h0_4 : List (Int × Bool)) (h0_5 : Int) : (T_sl11Chosen_0 x1 x5 h0_0 h0_1 h0_2 h0_3 h0_4 h0_5).val (D := S_sl11Chosen_0.den) = .fail ∨ Runs sp_sl11Chosen_0 (pk_sl11Chosen_0 x1 x5 h0_0 h0_1 h0_2 h0_3 h0_4 h0_5) (T_sl11Chosen_0 x1 x5 h0_0 h0_1 h0_2 h0_3 h0_4 h0_5).val := Runs.ofIt (step := sp_sl11Chosen_0) (fun v : V_sl11Chosen_0 => pk_sl11Chosen_0 v.1 v.2 h0_0 h0_1 h0_2 h0_3 h0_4 h0_5) (ct := (ct_sl11Chosen_0 h0_0 h0_1 h0_2 h0_3 h0_4 h0_5)) rfl (fun v => ((relB (relB (relB rfl rfl) rfl) rfl) : (st_sl11Chosen_0 v.1 v.2 h0_0 h0_1 h0_2 h0_3 h0_4 h0_5).val = relS (fun v : V_sl11Chosen_0 => pk_sl11Chosen_0 v.1 v.2 h0_0 h0_1 h0_2 h0_3 h0_4 h0_5) (ct_sl11Chosen_0 h0_0 h0_1 h0_2 h0_3 h0_4 h0_5) (ss_sl11Chosen_0 v.1 v.2 h0_0 h0_1 h0_2 h0_3 h0_4 h0_5))) (fun a => ((cendB (cendD (by simp)) (cendB (cendD (by simp)) cendF)) : CEnd _ ((ct_sl11Chosen_0 h0_0 h0_1 h0_2 h0_3 h0_4 h0_5) a))) (x1, x5)
theorem rd_sl11Chosen_0 : ∀ d, execC Try.prog tt S16 QF16 (fun _ _ => none) 0 body_sl11Chosen_0 (S_sl11Chosen_0.st d 0 []) (fun e s' => some (e, S_sl11Chosen_0.cutE (kepts [4] [(0, [])]) e s')) = (sp_sl11Chosen_0 d).opt 0 [] := by
  intro d
  kernel_rfl
noncomputable abbrev say_sl11Chosen_0 : St → Option Tree := S_sl11Chosen_0.say 0 [] [] (fun d => T_sl11Chosen_0 d.1.2.1 d.1.2.2.2.2.2.1 d.2.1.1 d.2.1.2.1 d.2.1.2.2.1 d.2.1.2.2.2.1 d.2.1.2.2.2.2.1 d.2.1.2.2.2.2.2.1)
theorem lw_sl11Chosen_0 : LoopWp Try.prog say_sl11Chosen_0 body_sl11Chosen_0 := SS.wp G16 (fun _ _ => none) (by rw [show loopsIn 0 body_sl11Chosen_0 = [] by kernel_rfl]; simp) S_sl11Chosen_0 0 [] (kepts [4] [(0, [])]) [] sp_sl11Chosen_0 rd_sl11Chosen_0 _ (fun d => R_sl11Chosen_0 d.1.2.1 d.1.2.2.2.2.2.1 d.2.1.1 d.2.1.2.1 d.2.1.2.2.1 d.2.1.2.2.2.1 d.2.1.2.2.2.2.1 d.2.1.2.2.2.2.2.1)
noncomputable def sl11Chosen (a0 : Int) (a1 : Int) (a2 : Int) (a3 : List (Int × (List (Int × ByteArray × ByteArray)) × Int × List Int)) (a4 : List (Int × Bool)) (a5 : Int) (a6 : Int) : Int := (cond ((it_sl11Chosen_0 a6 (0 : Int) a0 a1 a2 a3 a4 a5).1 == 0) ((it_sl11Chosen_0 a6 (0 : Int) a0 a1 a2 a3 a4 a5).2) (-1 : Int))
noncomputable abbrev e_sl11Chosen (r : Int) : AV × List AObj := ((.t true (.int .i64) r), [])
noncomputable abbrev g_sl11Chosen : pshsDen P_sl11Chosen → AV × List AObj := fun d => e_sl11Chosen (sl11Chosen d.1.1 d.1.2.1 d.1.2.2.1 d.1.2.2.2.1 d.1.2.2.2.2.1 d.1.2.2.2.2.2.1 d.2.1)
noncomputable def q_sl11Chosen (a0 : Int) (a1 : Int) (a2 : Int) (a3 : List (Int × (List (Int × ByteArray × ByteArray)) × Int × List Int)) (a4 : List (Int × Bool)) (a5 : Int) (a6 : Int) : Bool := cond ((it_sl11Chosen_0 a6 (0 : Int) a0 a1 a2 a3 a4 a5).1 == 0) true ((it_sl11Chosen_0 a6 (0 : Int) a0 a1 a2 a3 a4 a5).1 == 1)
noncomputable abbrev pre_sl11Chosen : pshsDen P_sl11Chosen → Bool := fun d => q_sl11Chosen d.1.1 d.1.2.1 d.1.2.2.1 d.1.2.2.2.1 d.1.2.2.2.2.1 d.1.2.2.2.2.2.1 d.2.1
theorem runA_sl11Chosen (a0 : Int) (a1 : Int) (a2 : Int) (a3 : List (Int × (List (Int × ByteArray × ByteArray)) × Int × List Int)) (a4 : List (Int × Bool)) (a5 : Int) (a6 : Int) (hp : (cond ((it_sl11Chosen_0 a6 (0 : Int) a0 a1 a2 a3 a4 a5).1 == 0) true ((it_sl11Chosen_0 a6 (0 : Int) a0 a1 a2 a3 a4 a5).1 == 1)) = true) : runP true Try.prog tt S16 QF16 (fun b => match b with | 0 => say_sl11Chosen_0 | _ => fun _ => none) Try.f43 (argsMk P_sl11Chosen ((a0, (a1, (a2, (a3, (a4, (a5, ())))))), (a6, ()))) = some (g_sl11Chosen ((a0, (a1, (a2, (a3, (a4, (a5, ())))))), (a6, ()))) := by
  refine Eq.trans (b := (cond ((it_sl11Chosen_0 a6 (0 : Int) a0 a1 a2 a3 a4 a5).1 == 0) (some (e_sl11Chosen ((it_sl11Chosen_0 a6 (0 : Int) a0 a1 a2 a3 a4 a5).2))) (cond ((it_sl11Chosen_0 a6 (0 : Int) a0 a1 a2 a3 a4 a5).1 == 1) (some (e_sl11Chosen (-1 : Int))) none))) (by kernel_rfl) ?_
  exact (cndQ (F := fun r => some (e_sl11Chosen r)) hp (fun hp => rfl) (fun hp => (cndT hp (fun _h => rfl))))
theorem run_sl11Chosen : ∀ d, pre_sl11Chosen d = true → runP true Try.prog tt S16 QF16 (fun b => match b with | 0 => say_sl11Chosen_0 | _ => fun _ => none) Try.f43 (argsMk P_sl11Chosen d) = some (g_sl11Chosen d) := fun d hp => runA_sl11Chosen d.1.1 d.1.2.1 d.1.2.2.1 d.1.2.2.2.1 d.1.2.2.2.2.1 d.1.2.2.2.2.2.1 d.2.1 hp
theorem c_sl11Chosen : PContract Try.prog 43 (sumOf P_sl11Chosen pre_sl11Chosen g_sl11Chosen) := PContract.of_data true G16 (fn := Try.f43) (by kernel_rfl) (L := fun b => match b with | 0 => say_sl11Chosen_0 | _ => fun _ => none) (by rw [show loopsIn 0 (bodyOf Try.f43) = [(0, body_sl11Chosen_0)] by kernel_rfl]; intro p hp; simp only [List.mem_singleton] at hp; subst hp; exact lw_sl11Chosen_0) P_sl11Chosen pre_sl11Chosen g_sl11Chosen run_sl11Chosen
noncomputable def S17 : Tab := Tab.add S16 43 (lift (sumOf P_sl11Chosen pre_sl11Chosen g_sl11Chosen))
noncomputable def QF17 : FuncId → Bool := qadd QF16 43
theorem G17 : Good Try.prog tt S17 QF17 := G16.addQ c_sl11Chosen ⟨Try.f43, by kernel_rfl, by kernel_rfl, by kernel_rfl⟩ (fun _ => rfl)

/-! 144 loop.example/g00244/spec.KeyOk -/
noncomputable def sKeyAt (s : ByteArray) (i : Nat) : Bool := sl1In (IntKind.wrap .i64 (bt s (i : Int))) 97 122 || sl1In (IntKind.wrap .i64 (bt s (i : Int))) 48 57
noncomputable abbrev P_sKeyOk : List PSh := [.t .str]
noncomputable abbrev S_sKeyOk_0 : SS := ⟨[.t true .str, .junk, .junk, .t true (.int .i64), .junk, .junk, .junk, .junk, .junk, .junk, .junk, .junk, .junk, .junk, .junk, .junk, .junk, .junk, .junk, .junk, .junk, .junk, .junk, .junk, .junk, .junk, .junk], []⟩
noncomputable abbrev E_sKeyOk_0_0 : SS := ⟨[.junk, .junk, .t true .bool, .junk, .junk, .junk, .junk, .junk, .junk, .junk, .junk, .junk, .junk, .junk, .junk, .junk, .junk, .junk, .junk, .junk, .junk, .junk, .junk, .junk, .junk, .junk, .junk], []⟩
noncomputable abbrev E_sKeyOk_0_1 : SS := ⟨[.t true .str, .junk, .junk, .junk, .junk, .junk, .junk, .junk, .junk, .junk, .junk, .junk, .junk, .junk, .junk, .junk, .junk, .junk, .junk, .junk, .junk, .junk, .junk, .junk, .junk, .junk, .junk], []⟩
noncomputable def st_sKeyOk_0 (x0 : ByteArray) (x3 : Int) : RT S_sKeyOk_0.den := (.br (decide (x3 < ((x0.size : Nat) : Int))) (.br (decide (0 ≤ x3 ∧ x3 < ((x0.size : Nat) : Int))) (.br (!(sl1In (IntKind.wrap .i64 (bt x0 x3)) (97 : Int) (122 : Int))) (.br (decide (0 ≤ x3 ∧ x3 < ((x0.size : Nat) : Int))) (.br (!(sl1In (IntKind.wrap .i64 (bt x0 x3)) (48 : Int) (57 : Int))) (.done .ret E_sKeyOk_0_0 (((), (), false, (), (), (), (), (), (), (), (), (), (), (), (), (), (), (), (), (), (), (), (), (), (), (), (), ()), ())) (.next ((x0, (), (), IntKind.wrap .i64 (x3 + (1 : Int)), (), (), (), (), (), (), (), (), (), (), (), (), (), (), (), (), (), (), (), (), (), (), (), ()), ()))) .fail) (.next ((x0, (), (), IntKind.wrap .i64 (x3 + (1 : Int)), (), (), (), (), (), (), (), (), (), (), (), (), (), (), (), (), (), (), (), (), (), (), (), ()), ()))) .fail) (.done (.exit 0) E_sKeyOk_0_1 ((x0, (), (), (), (), (), (), (), (), (), (), (), (), (), (), (), (), (), (), (), (), (), (), (), (), (), (), ()), ())))
noncomputable def T_sKeyOk_0 (x0 : ByteArray) (x3 : Int) : CT := (.br (decide (0 ≤ x3) && okS x0) (.br (allF (sKeyAt x0) (x0.size - x3.toNat) x3.toNat) (.done (.exit 0) E_sKeyOk_0_1 ((x0, (), (), (), (), (), (), (), (), (), (), (), (), (), (), (), (), (), (), (), (), (), (), (), (), (), (), ()), ())) (.done .ret E_sKeyOk_0_0 (((), (), false, (), (), (), (), (), (), (), (), (), (), (), (), (), (), (), (), (), (), (), (), (), (), (), (), ()), ()))) .fail)
noncomputable abbrev sp_sKeyOk_0 : S_sKeyOk_0.den → RT S_sKeyOk_0.den := fun d => st_sKeyOk_0 d.1.1 d.1.2.2.2.1
noncomputable abbrev pk_sKeyOk_0 (x0 : ByteArray) (x3 : Int) : S_sKeyOk_0.den := ((x0, (), (), x3, (), (), (), (), (), (), (), (), (), (), (), (), (), (), (), (), (), (), (), (), (), (), (), ()), ())
noncomputable def body_sKeyOk_0 : Code := ((loopsIn 0 (bodyOf Try.f144)).getD 0 (0, .skip)).2
theorem R_sKeyOk_0 (x0 : ByteArray) (x3 : Int) : (T_sKeyOk_0 x0 x3).val (D := S_sKeyOk_0.den) = .fail ∨ Runs sp_sKeyOk_0 (pk_sKeyOk_0 x0 x3) (T_sKeyOk_0 x0 x3).val := by
  cases hc : (decide (0 ≤ x3) && okS x0) with
  | false => left; simp only [T_sKeyOk_0, CT.val, hc, cond_false]
  | true =>
    right
    simp only [T_sKeyOk_0, CT.val, hc, cond_true]
    simp only [Bool.and_eq_true, decide_eq_true_eq] at hc
    obtain ⟨i, rfl⟩ := Int.eq_ofNat_of_zero_le hc.1
    have hs := okS_le hc.2
    simp only [Int.toNat_natCast]
    refine Runs.scan (fun j => pk_sKeyOk_0 x0 (j : Int)) (x0.size) (sKeyAt x0) (fun i hi => ?_) (fun i hi => ?_) ⟨_, _, _, rfl, by simp⟩ ⟨_, _, _, rfl, by simp⟩ _ _ rfl
    · 
      have h0a : decide ((i : Int) < ((x0.size : Nat) : Int)) = true := decide_eq_true (by omega)
      have h0b : decide (0 ≤ (i : Int) ∧ (i : Int) < ((x0.size : Nat) : Int)) = true := decide_eq_true (by omega)
      simp only [sp_sKeyOk_0, st_sKeyOk_0, RT.val, h0a, h0b, cond_true, wrapS i (by omega), Int.toNat_natCast]
      simp only [sKeyAt]
      cases sl1In (IntKind.wrap .i64 (bt x0 (i : Int))) 97 122 <;> cases sl1In (IntKind.wrap .i64 (bt x0 (i : Int))) 48 57 <;> rfl
    · have h1 : decide ((i : Int) < ((x0.size : Nat) : Int)) = false := decide_eq_false (by omega)
      simp only [sp_sKeyOk_0, st_sKeyOk_0, RT.val, h1, cond_false]
theorem rd_sKeyOk_0 : ∀ d, execC Try.prog tt S17 QF17 (fun _ _ => none) 0 body_sKeyOk_0 (S_sKeyOk_0.st d 0 []) (fun e s' => some (e, S_sKeyOk_0.cutE (kepts [2] [(0, [0])]) e s')) = (sp_sKeyOk_0 d).opt 0 [] := by
  intro d
  kernel_rfl
noncomputable abbrev say_sKeyOk_0 : St → Option Tree := S_sKeyOk_0.say 0 [] [] (fun d => T_sKeyOk_0 d.1.1 d.1.2.2.2.1)
theorem lw_sKeyOk_0 : LoopWp Try.prog say_sKeyOk_0 body_sKeyOk_0 := SS.wp G17 (fun _ _ => none) (by rw [show loopsIn 0 body_sKeyOk_0 = [] by kernel_rfl]; simp) S_sKeyOk_0 0 [] (kepts [2] [(0, [0])]) [] sp_sKeyOk_0 rd_sKeyOk_0 _ (fun d => R_sKeyOk_0 d.1.1 d.1.2.2.2.1)
noncomputable def sKeyOk (a0 : ByteArray) : Bool := (cond (allF (sKeyAt a0) (a0.size - (0 : Int).toNat) (0 : Int).toNat) (sl1In ((a0.size : Nat) : Int) (1 : Int) (12 : Int)) false)
noncomputable abbrev e_sKeyOk (r : Bool) : AV × List AObj := ((.t true .bool r), [])
noncomputable abbrev g_sKeyOk : pshsDen P_sKeyOk → AV × List AObj := fun d => e_sKeyOk (sKeyOk d.1)
noncomputable def q_sKeyOk (a0 : ByteArray) : Bool := okS a0
noncomputable abbrev pre_sKeyOk : pshsDen P_sKeyOk → Bool := fun d => q_sKeyOk d.1
theorem runA_sKeyOk (a0 : ByteArray) (hp : (okS a0) = true) : runP true Try.prog tt S17 QF17 (fun b => match b with | 0 => say_sKeyOk_0 | _ => fun _ => none) Try.f144 (argsMk P_sKeyOk (a0, ())) = some (g_sKeyOk (a0, ())) := by
  refine Eq.trans (b := (cond (decide (0 ≤ (0 : Int)) && okS a0) (cond (allF (sKeyAt a0) (a0.size - (0 : Int).toNat) (0 : Int).toNat) (some (e_sKeyOk (sl1In ((a0.size : Nat) : Int) (1 : Int) (12 : Int)))) (some (e_sKeyOk false))) none)) (by kernel_rfl) ?_
  exact (cndT (by first | rfl | decide | exact hp | (simp only [Bool.and_eq_true] at hp; simp only [hp]; done) | (simp [*]; done) | (simp [okL] at hp; simp [okL, MAXB]; omega) | (simp_all; done) | (simp at *; omega)) (fun _h => (cnd (F := fun r => some (e_sKeyOk r)) (fun _h => rfl) (fun _h => rfl))))
theorem run_sKeyOk : ∀ d, pre_sKeyOk d = true → runP true Try.prog tt S17 QF17 (fun b => match b with | 0 => say_sKeyOk_0 | _ => fun _ => none) Try.f144 (argsMk P_sKeyOk d) = some (g_sKeyOk d) := fun d hp => runA_sKeyOk d.1 hp
theorem c_sKeyOk : PContract Try.prog 144 (sumOf P_sKeyOk pre_sKeyOk g_sKeyOk) := PContract.of_data true G17 (fn := Try.f144) (by kernel_rfl) (L := fun b => match b with | 0 => say_sKeyOk_0 | _ => fun _ => none) (by rw [show loopsIn 0 (bodyOf Try.f144) = [(0, body_sKeyOk_0)] by kernel_rfl]; intro p hp; simp only [List.mem_singleton] at hp; subst hp; exact lw_sKeyOk_0) P_sKeyOk pre_sKeyOk g_sKeyOk run_sKeyOk
noncomputable def S18 : Tab := Tab.add S17 144 (lift (sumOf P_sKeyOk pre_sKeyOk g_sKeyOk))
noncomputable def QF18 : FuncId → Bool := qadd QF17 144
theorem G18 : Good Try.prog tt S18 QF18 := G17.addQ c_sKeyOk ⟨Try.f144, by kernel_rfl, by kernel_rfl, by kernel_rfl⟩ (fun _ => rfl)

/-! 120 loop.example/g00244/spec.l7Op -/
noncomputable abbrev P_sl7Op : List PSh := [.agg [(.int .i64), .str, .str]]
noncomputable def sl7Op (a0 : Int) (a1 : ByteArray) (a2 : ByteArray) : Bool := (cond (!(sl1In a0 (1 : Int) (3 : Int))) false (cond (a0 == (2 : Int)) (cond (!(a2.toList == (⟨#[]⟩ : ByteArray).toList)) false (cond (sKeyOk a1) (decide (((a2.size : Nat) : Int) ≤ (20 : Int))) false)) (cond (sKeyOk a1) (decide (((a2.size : Nat) : Int) ≤ (20 : Int))) false)))
noncomputable abbrev e_sl7Op (r : Bool) : AV × List AObj := ((.t true .bool r), [])
noncomputable abbrev g_sl7Op : pshsDen P_sl7Op → AV × List AObj := fun d => e_sl7Op (sl7Op d.1.1 d.1.2.1 d.1.2.2.1)
noncomputable def q_sl7Op (a0 : Int) (a1 : ByteArray) (a2 : ByteArray) : Bool := okS a1
noncomputable abbrev pre_sl7Op : pshsDen P_sl7Op → Bool := fun d => q_sl7Op d.1.1 d.1.2.1 d.1.2.2.1
theorem runA_sl7Op (a0 : Int) (a1 : ByteArray) (a2 : ByteArray) (hp : (okS a1) = true) : runP true Try.prog tt S18 QF18 (fun _ _ => none) Try.f120 (argsMk P_sl7Op ((a0, (a1, (a2, ()))), ())) = some (g_sl7Op ((a0, (a1, (a2, ()))), ())) := by
  refine Eq.trans (b := (cond (!(sl1In a0 (1 : Int) (3 : Int))) (some (e_sl7Op false)) (cond (a0 == (2 : Int)) (cond (!(a2.toList == (⟨#[]⟩ : ByteArray).toList)) (some (e_sl7Op false)) (cond (q_sKeyOk a1) (cond (sKeyOk a1) (some (e_sl7Op (decide (((a2.size : Nat) : Int) ≤ (20 : Int))))) (some (e_sl7Op false))) none)) (cond (q_sKeyOk a1) (cond (sKeyOk a1) (some (e_sl7Op (decide (((a2.size : Nat) : Int) ≤ (20 : Int))))) (some (e_sl7Op false))) none)))) (by kernel_rfl) ?_
  exact (cnd (F := fun r => some (e_sl7Op r)) (fun _h => rfl) (fun _h => (cnd (F := fun r => some (e_sl7Op r)) (fun _h => (cnd (F := fun r => some (e_sl7Op r)) (fun _h => rfl) (fun _h => (cndT (by first | rfl | decide | exact hp | (simp only [Bool.and_eq_true] at hp; simp only [hp]; done) | (simp [*]; done) | (simp [okL] at hp; simp [okL, MAXB]; omega) | (simp_all; done) | (simp at *; omega)) (fun _h => (cnd (F := fun r => some (e_sl7Op r)) (fun _h => rfl) (fun _h => rfl))))))) (fun _h => (cndT (by first | rfl | decide | exact hp | (simp only [Bool.and_eq_true] at hp; simp only [hp]; done) | (simp [*]; done) | (simp [okL] at hp; simp [okL, MAXB]; omega) | (simp_all; done) | (simp at *; omega)) (fun _h => (cnd (F := fun r => some (e_sl7Op r)) (fun _h => rfl) (fun _h => rfl))))))))
theorem run_sl7Op : ∀ d, pre_sl7Op d = true → runP true Try.prog tt S18 QF18 (fun _ _ => none) Try.f120 (argsMk P_sl7Op d) = some (g_sl7Op d) := fun d hp => runA_sl7Op d.1.1 d.1.2.1 d.1.2.2.1 hp
theorem c_sl7Op : PContract Try.prog 120 (sumOf P_sl7Op pre_sl7Op g_sl7Op) := PContract.of_data true G18 (fn := Try.f120) (by kernel_rfl) (L := fun _ _ => none) (by rw [show loopsIn 0 (bodyOf Try.f120) = [] by kernel_rfl]; simp) P_sl7Op pre_sl7Op g_sl7Op run_sl7Op
noncomputable def S19 : Tab := Tab.add S18 120 (lift (sumOf P_sl7Op pre_sl7Op g_sl7Op))
noncomputable def QF19 : FuncId → Bool := qadd QF18 120
theorem G19 : Good Try.prog tt S19 QF19 := G18.addQ c_sl7Op ⟨Try.f120, by kernel_rfl, by kernel_rfl, by kernel_rfl⟩ (fun _ => rfl)

/-! 86 loop.example/g00244/spec.OpsOk -/
noncomputable def sOpAt (l : List (Int × ByteArray × ByteArray)) (i : Nat) : Bool := sl7Op (l.getD i dOp).1 (l.getD i dOp).2.1 (l.getD i dOp).2.2 && (decide (i = 0) || Op.bytesLess (l.getD (i - 1) dOp).2.1.toList (l.getD i dOp).2.1.toList)
noncomputable abbrev P_sOpsOk : List PSh := [.t (.sl (.pair (.int .i64) (.pair .str .str)))]
noncomputable abbrev S_sOpsOk_0 : SS := ⟨[.t false (.sl (.pair (.int .i64) (.pair .str .str))), .junk, .junk, .t true (.int .i64), .junk, .junk, .junk, .junk, .junk, .junk, .junk, .junk, .junk, .junk, .junk, .junk, .junk, .junk, .junk, .junk, .junk, .junk, .junk, .junk, .junk, .junk, .junk, .junk, .junk, .junk, .junk, .junk, .junk, .junk, .junk, .junk, .junk], []⟩
noncomputable abbrev E_sOpsOk_0_0 : SS := ⟨[.junk, .junk, .t true .bool, .junk, .junk, .junk, .junk, .junk, .junk, .junk, .junk, .junk, .junk, .junk, .junk, .junk, .junk, .junk, .junk, .junk, .junk, .junk, .junk, .junk, .junk, .junk, .junk, .junk, .junk, .junk, .junk, .junk, .junk, .junk, .junk, .junk, .junk], []⟩
noncomputable abbrev E_sOpsOk_0_1 : SS := ⟨[.t false (.sl (.pair (.int .i64) (.pair .str .str))), .junk, .junk, .junk, .junk, .junk, .junk, .junk, .junk, .junk, .junk, .junk, .junk, .junk, .junk, .junk, .junk, .junk, .junk, .junk, .junk, .junk, .junk, .junk, .junk, .junk, .junk, .junk, .junk, .junk, .junk, .junk, .junk, .junk, .junk, .junk, .junk], []⟩
noncomputable def st_sOpsOk_0 (x0 : List (Int × ByteArray × ByteArray)) (x3 : Int) : RT S_sOpsOk_0.den := (.br (decide (x3 < ((x0.length : Nat) : Int))) (.br (decide (0 ≤ x3 ∧ x3 < ((x0.length : Nat) : Int))) (.br (q_sl7Op ((x0.getD x3.toNat ((0 : Int), ((⟨#[]⟩ : ByteArray), (⟨#[]⟩ : ByteArray)))).1) (((x0.getD x3.toNat ((0 : Int), ((⟨#[]⟩ : ByteArray), (⟨#[]⟩ : ByteArray)))).2).1) (((x0.getD x3.toNat ((0 : Int), ((⟨#[]⟩ : ByteArray), (⟨#[]⟩ : ByteArray)))).2).2)) (.br (!(sl7Op ((x0.getD x3.toNat ((0 : Int), ((⟨#[]⟩ : ByteArray), (⟨#[]⟩ : ByteArray)))).1) (((x0.getD x3.toNat ((0 : Int), ((⟨#[]⟩ : ByteArray), (⟨#[]⟩ : ByteArray)))).2).1) (((x0.getD x3.toNat ((0 : Int), ((⟨#[]⟩ : ByteArray), (⟨#[]⟩ : ByteArray)))).2).2))) (.done .ret E_sOpsOk_0_0 (((), (), false, (), (), (), (), (), (), (), (), (), (), (), (), (), (), (), (), (), (), (), (), (), (), (), (), (), (), (), (), (), (), (), (), (), (), ()), ())) (.br (decide (x3 > (0 : Int))) (.br (decide (0 ≤ (IntKind.wrap .i64 (x3 - (1 : Int))) ∧ (IntKind.wrap .i64 (x3 - (1 : Int))) < ((x0.length : Nat) : Int))) (.br (decide (0 ≤ x3 ∧ x3 < ((x0.length : Nat) : Int))) (.br (!(Op.bytesLess (((x0.getD ((IntKind.wrap .i64 (x3 - (1 : Int))).toNat) ((0 : Int), ((⟨#[]⟩ : ByteArray), (⟨#[]⟩ : ByteArray)))).2).1).toList (((x0.getD x3.toNat ((0 : Int), ((⟨#[]⟩ : ByteArray), (⟨#[]⟩ : ByteArray)))).2).1).toList)) (.done .ret E_sOpsOk_0_0 (((), (), false, (), (), (), (), (), (), (), (), (), (), (), (), (), (), (), (), (), (), (), (), (), (), (), (), (), (), (), (), (), (), (), (), (), (), ()), ())) (.next ((x0, (), (), IntKind.wrap .i64 (x3 + (1 : Int)), (), (), (), (), (), (), (), (), (), (), (), (), (), (), (), (), (), (), (), (), (), (), (), (), (), (), (), (), (), (), (), (), (), ()), ()))) .fail) .fail) (.next ((x0, (), (), IntKind.wrap .i64 (x3 + (1 : Int)), (), (), (), (), (), (), (), (), (), (), (), (), (), (), (), (), (), (), (), (), (), (), (), (), (), (), (), (), (), (), (), (), (), ()), ())))) .fail) .fail) (.done (.exit 0) E_sOpsOk_0_1 ((x0, (), (), (), (), (), (), (), (), (), (), (), (), (), (), (), (), (), (), (), (), (), (), (), (), (), (), (), (), (), (), (), (), (), (), (), (), ()), ())))
noncomputable def T_sOpsOk_0 (x0 : List (Int × ByteArray × ByteArray)) (x3 : Int) : CT := (.br (decide (0 ≤ x3) && okOps x0) (.br (allF (sOpAt x0) (x0.length - x3.toNat) x3.toNat) (.done (.exit 0) E_sOpsOk_0_1 ((x0, (), (), (), (), (), (), (), (), (), (), (), (), (), (), (), (), (), (), (), (), (), (), (), (), (), (), (), (), (), (), (), (), (), (), (), (), ()), ())) (.done .ret E_sOpsOk_0_0 (((), (), false, (), (), (), (), (), (), (), (), (), (), (), (), (), (), (), (), (), (), (), (), (), (), (), (), (), (), (), (), (), (), (), (), (), (), ()), ()))) .fail)
noncomputable abbrev sp_sOpsOk_0 : S_sOpsOk_0.den → RT S_sOpsOk_0.den := fun d => st_sOpsOk_0 d.1.1 d.1.2.2.2.1
noncomputable abbrev pk_sOpsOk_0 (x0 : List (Int × ByteArray × ByteArray)) (x3 : Int) : S_sOpsOk_0.den := ((x0, (), (), x3, (), (), (), (), (), (), (), (), (), (), (), (), (), (), (), (), (), (), (), (), (), (), (), (), (), (), (), (), (), (), (), (), (), ()), ())
noncomputable def body_sOpsOk_0 : Code := ((loopsIn 0 (bodyOf Try.f86)).getD 0 (0, .skip)).2
theorem R_sOpsOk_0 (x0 : List (Int × ByteArray × ByteArray)) (x3 : Int) : (T_sOpsOk_0 x0 x3).val (D := S_sOpsOk_0.den) = .fail ∨ Runs sp_sOpsOk_0 (pk_sOpsOk_0 x0 x3) (T_sOpsOk_0 x0 x3).val := by
  cases hc : (decide (0 ≤ x3) && okOps x0) with
  | false => left; simp only [T_sOpsOk_0, CT.val, hc, cond_false]
  | true =>
    right
    simp only [T_sOpsOk_0, CT.val, hc, cond_true]
    simp only [Bool.and_eq_true, decide_eq_true_eq] at hc
    obtain ⟨i, rfl⟩ := Int.eq_ofNat_of_zero_le hc.1
    have hs := okOps_len hc.2
    simp only [Int.toNat_natCast]
    refine Runs.scan (fun j => pk_sOpsOk_0 x0 (j : Int)) (x0.length) (sOpAt x0) (fun i hi => ?_) (fun i hi => ?_) ⟨_, _, _, rfl, by simp⟩ ⟨_, _, _, rfl, by simp⟩ _ _ rfl
    · 
      have h0a : decide ((i : Int) < ((x0.length : Nat) : Int)) = true := decide_eq_true (by omega)
      have h0b : decide (0 ≤ (i : Int) ∧ (i : Int) < ((x0.length : Nat) : Int)) = true := decide_eq_true (by omega)
      simp only [sp_sOpsOk_0, st_sOpsOk_0, RT.val, h0a, h0b, cond_true, wrapS i (by omega), Int.toNat_natCast]
      have hq : q_sl7Op (x0.getD i dOp).1 (x0.getD i dOp).2.1 (x0.getD i dOp).2.2 = true := (okOps_at hc.2 i hi).1
      simp only [dOp] at hq
      simp only [hq, cond_true, sOpAt, dOp]
      cases sl7Op (x0.getD i ((0 : Int), ((⟨#[]⟩ : ByteArray), (⟨#[]⟩ : ByteArray)))).1 (x0.getD i ((0 : Int), ((⟨#[]⟩ : ByteArray), (⟨#[]⟩ : ByteArray)))).2.1 (x0.getD i ((0 : Int), ((⟨#[]⟩ : ByteArray), (⟨#[]⟩ : ByteArray)))).2.2 with
      | false => rfl
      | true =>
        cases i with
        | zero => rfl
        | succ i =>
          have h3 : decide (((i + 1 : Nat) : Int) > 0) = true := decide_eq_true (by omega)
          have h4 : IntKind.wrap .i64 (((i + 1 : Nat) : Int) - 1) = (i : Int) := by have := wrap64 (n := ((i + 1 : Nat) : Int) - 1) (by omega) (by omega); omega
          have h5 : decide (0 ≤ (i : Int) ∧ (i : Int) < ((x0.length : Nat) : Int)) = true := decide_eq_true (by omega)
          have h6 : decide (i + 1 = 0) = false := by simp
          simp only [h3, h4, h5, h6, cond_true, Bool.true_and, Bool.false_or, Int.toNat_natCast, Nat.add_sub_cancel, Bool.not_true, cond_false]
          cases Op.bytesLess (x0.getD i ((0 : Int), ((⟨#[]⟩ : ByteArray), (⟨#[]⟩ : ByteArray)))).2.1.toList (x0.getD (i + 1) ((0 : Int), ((⟨#[]⟩ : ByteArray), (⟨#[]⟩ : ByteArray)))).2.1.toList <;> rfl
    · have h1 : decide ((i : Int) < ((x0.length : Nat) : Int)) = false := decide_eq_false (by omega)
      simp only [sp_sOpsOk_0, st_sOpsOk_0, RT.val, h1, cond_false]
theorem rd_sOpsOk_0 : ∀ d, execC Try.prog tt S19 QF19 (fun _ _ => none) 0 body_sOpsOk_0 (S_sOpsOk_0.st d 0 []) (fun e s' => some (e, S_sOpsOk_0.cutE (kepts [2] [(0, [0])]) e s')) = (sp_sOpsOk_0 d).opt 0 [] := by
  intro d
  kernel_rfl
noncomputable abbrev say_sOpsOk_0 : St → Option Tree := S_sOpsOk_0.say 0 [] [] (fun d => T_sOpsOk_0 d.1.1 d.1.2.2.2.1)
theorem lw_sOpsOk_0 : LoopWp Try.prog say_sOpsOk_0 body_sOpsOk_0 := SS.wp G19 (fun _ _ => none) (by rw [show loopsIn 0 body_sOpsOk_0 = [] by kernel_rfl]; simp) S_sOpsOk_0 0 [] (kepts [2] [(0, [0])]) [] sp_sOpsOk_0 rd_sOpsOk_0 _ (fun d => R_sOpsOk_0 d.1.1 d.1.2.2.2.1)
noncomputable def sOpsOk (a0 : List (Int × ByteArray × ByteArray)) : Bool := (cond (allF (sOpAt a0) (a0.length - (0 : Int).toNat) (0 : Int).toNat) (sl1In ((a0.length : Nat) : Int) (1 : Int) (8 : Int)) false)
noncomputable abbrev e_sOpsOk (r : Bool) : AV × List AObj := ((.t true .bool r), [])
noncomputable abbrev g_sOpsOk : pshsDen P_sOpsOk → AV × List AObj := fun d => e_sOpsOk (sOpsOk d.1)
noncomputable def q_sOpsOk (a0 : List (Int × ByteArray × ByteArray)) : Bool := okOps a0
noncomputable abbrev pre_sOpsOk : pshsDen P_sOpsOk → Bool := fun d => q_sOpsOk d.1
theorem runA_sOpsOk (a0 : List (Int × ByteArray × ByteArray)) (hp : (okOps a0) = true) : runP true Try.prog tt S19 QF19 (fun b => match b with | 0 => say_sOpsOk_0 | _ => fun _ => none) Try.f86 (argsMk P_sOpsOk (a0, ())) = some (g_sOpsOk (a0, ())) := by
  refine Eq.trans (b := (cond (decide (0 ≤ (0 : Int)) && okOps a0) (cond (allF (sOpAt a0) (a0.length - (0 : Int).toNat) (0 : Int).toNat) (some (e_sOpsOk (sl1In ((a0.length : Nat) : Int) (1 : Int) (8 : Int)))) (some (e_sOpsOk false))) none)) (by kernel_rfl) ?_
  exact (cndT (by first | rfl | decide | exact hp | (simp only [Bool.and_eq_true] at hp; simp only [hp]; done) | (simp [*]; done) | (simp [okL] at hp; simp [okL, MAXB]; omega) | (simp_all; done) | (simp at *; omega)) (fun _h => (cnd (F := fun r => some (e_sOpsOk r)) (fun _h => rfl) (fun _h => rfl))))
theorem run_sOpsOk : ∀ d, pre_sOpsOk d = true → runP true Try.prog tt S19 QF19 (fun b => match b with | 0 => say_sOpsOk_0 | _ => fun _ => none) Try.f86 (argsMk P_sOpsOk d) = some (g_sOpsOk d) := fun d hp => runA_sOpsOk d.1 hp
theorem c_sOpsOk : PContract Try.prog 86 (sumOf P_sOpsOk pre_sOpsOk g_sOpsOk) := PContract.of_data true G19 (fn := Try.f86) (by kernel_rfl) (L := fun b => match b with | 0 => say_sOpsOk_0 | _ => fun _ => none) (by rw [show loopsIn 0 (bodyOf Try.f86) = [(0, body_sOpsOk_0)] by kernel_rfl]; intro p hp; simp only [List.mem_singleton] at hp; subst hp; exact lw_sOpsOk_0) P_sOpsOk pre_sOpsOk g_sOpsOk run_sOpsOk
noncomputable def S20 : Tab := Tab.add S19 86 (lift (sumOf P_sOpsOk pre_sOpsOk g_sOpsOk))
noncomputable def QF20 : FuncId → Bool := qadd QF19 86
theorem G20 : Good Try.prog tt S20 QF20 := G19.addQ c_sOpsOk ⟨Try.f86, by kernel_rfl, by kernel_rfl, by kernel_rfl⟩ (fun _ => rfl)

/-! 145 loop.example/g00244/spec.Hash -/
noncomputable abbrev P_sHash : List PSh := [.t .str]
noncomputable abbrev S_sHash_0 : SS := ⟨[.t true .str, .junk, .junk, .t true (.int .i64), .t true (.int .i64), .junk, .junk, .junk, .junk, .junk, .junk, .junk, .junk, .junk, .junk, .junk, .junk, .junk, .junk, .junk], []⟩
noncomputable abbrev E_sHash_0_0 : SS := ⟨[.junk, .junk, .junk, .t true (.int .i64), .junk, .junk, .junk, .junk, .junk, .junk, .junk, .junk, .junk, .junk, .junk, .junk, .junk, .junk, .junk, .junk], []⟩
noncomputable def st_sHash_0 (x0 : ByteArray) (x3 : Int) (x4 : Int) : RT S_sHash_0.den := (.br (decide (x4 < ((x0.size : Nat) : Int))) (.br (decide (0 ≤ x4 ∧ x4 < ((x0.size : Nat) : Int))) (.next ((x0, (), (), iand .i64 (IntKind.wrap .i64 ((ixor .i64 x3 (IntKind.wrap .i64 (bt x0 x4))) * (16777619 : Int))) (4294967295 : Int), IntKind.wrap .i64 (x4 + (1 : Int)), (), (), (), (), (), (), (), (), (), (), (), (), (), (), (), ()), ())) .fail) (.done (.exit 0) E_sHash_0_0 (((), (), (), x3, (), (), (), (), (), (), (), (), (), (), (), (), (), (), (), (), ()), ())))
noncomputable abbrev V_sHash_0 := (ByteArray) × (Int) × (Int)
noncomputable abbrev A_sHash_0 := Nat × (Int)
noncomputable def fl_sHash_0 : A_sHash_0 := (99, ((0 : Int) : Int))
noncomputable def ss_sHash_0 (x0 : ByteArray) (x3 : Int) (x4 : Int) : V_sHash_0 ⊕ A_sHash_0 := (cond (decide (x4 < ((x0.size : Nat) : Int))) (cond (decide (0 ≤ x4 ∧ x4 < ((x0.size : Nat) : Int))) (.inl (x0, iand .i64 (IntKind.wrap .i64 ((ixor .i64 x3 (IntKind.wrap .i64 (bt x0 x4))) * (16777619 : Int))) (4294967295 : Int), IntKind.wrap .i64 (x4 + (1 : Int)))) (.inr fl_sHash_0)) (.inr (0, x3)))
noncomputable def it_sHash_0 (x0 : ByteArray) (x3 : Int) (x4 : Int) : A_sHash_0 := itX (fun v : V_sHash_0 => ss_sHash_0 v.1 v.2.1 v.2.2) fl_sHash_0 (x0, x3, x4)
noncomputable def ct_sHash_0 (a : A_sHash_0) : CT := (.br (a.1 == 0) (.done (.exit 0) E_sHash_0_0 (((), (), (), a.2, (), (), (), (), (), (), (), (), (), (), (), (), (), (), (), (), ()), ())) .fail)
noncomputable def T_sHash_0 (x0 : ByteArray) (x3 : Int) (x4 : Int) : CT := ct_sHash_0 (it_sHash_0 x0 x3 x4)
noncomputable abbrev sp_sHash_0 : S_sHash_0.den → RT S_sHash_0.den := fun d => st_sHash_0 d.1.1 d.1.2.2.2.1 d.1.2.2.2.2.1
noncomputable abbrev pk_sHash_0 (x0 : ByteArray) (x3 : Int) (x4 : Int) : S_sHash_0.den := ((x0, (), (), x3, x4, (), (), (), (), (), (), (), (), (), (), (), (), (), (), (), ()), ())
noncomputable def body_sHash_0 : Code := ((loopsIn 0 (bodyOf Try.f145)).getD 0 (0, .skip)).2
theorem R_sHash_0 (x0 : ByteArray) (x3 : Int) (x4 : Int) : (T_sHash_0 x0 x3 x4).val (D := S_sHash_0.den) = .fail ∨ Runs sp_sHash_0 (pk_sHash_0 x0 x3 x4) (T_sHash_0 x0 x3 x4).val := Runs.ofIt (step := sp_sHash_0) (fun v : V_sHash_0 => pk_sHash_0 v.1 v.2.1 v.2.2) (ct := ct_sHash_0) rfl (fun v => ((relB (relB rfl rfl) rfl) : (st_sHash_0 v.1 v.2.1 v.2.2).val = relS (fun v : V_sHash_0 => pk_sHash_0 v.1 v.2.1 v.2.2) ct_sHash_0 (ss_sHash_0 v.1 v.2.1 v.2.2))) (fun a => ((cendB (cendD (by simp)) cendF) : CEnd _ (ct_sHash_0 a))) (x0, x3, x4)
theorem rd_sHash_0 : ∀ d, execC Try.prog tt S20 QF20 (fun _ _ => none) 0 body_sHash_0 (S_sHash_0.st d 0 []) (fun e s' => some (e, S_sHash_0.cutE (kepts [] [(0, [3])]) e s')) = (sp_sHash_0 d).opt 0 [] := by
  intro d
  kernel_rfl
noncomputable abbrev say_sHash_0 : St → Option Tree := S_sHash_0.say 0 [] [] (fun d => T_sHash_0 d.1.1 d.1.2.2.2.1 d.1.2.2.2.2.1)
theorem lw_sHash_0 : LoopWp Try.prog say_sHash_0 body_sHash_0 := SS.wp G20 (fun _ _ => none) (by rw [show loopsIn 0 body_sHash_0 = [] by kernel_rfl]; simp) S_sHash_0 0 [] (kepts [] [(0, [3])]) [] sp_sHash_0 rd_sHash_0 _ (fun d => R_sHash_0 d.1.1 d.1.2.2.2.1 d.1.2.2.2.2.1)
noncomputable def sHash (a0 : ByteArray) : Int := ((it_sHash_0 a0 (2166136261 : Int) (0 : Int)).2)
noncomputable abbrev e_sHash (r : Int) : AV × List AObj := ((.t true (.int .i64) r), [])
noncomputable abbrev g_sHash : pshsDen P_sHash → AV × List AObj := fun d => e_sHash (sHash d.1)
noncomputable def q_sHash (a0 : ByteArray) : Bool := ((it_sHash_0 a0 (2166136261 : Int) (0 : Int)).1 == 0)
noncomputable abbrev pre_sHash : pshsDen P_sHash → Bool := fun d => q_sHash d.1
theorem runA_sHash (a0 : ByteArray) (hp : (((it_sHash_0 a0 (2166136261 : Int) (0 : Int)).1 == 0)) = true) : runP true Try.prog tt S20 QF20 (fun b => match b with | 0 => say_sHash_0 | _ => fun _ => none) Try.f145 (argsMk P_sHash (a0, ())) = some (g_sHash (a0, ())) := by
  refine Eq.trans (b := (cond ((it_sHash_0 a0 (2166136261 : Int) (0 : Int)).1 == 0) (some (e_sHash ((it_sHash_0 a0 (2166136261 : Int) (0 : Int)).2))) none)) (by kernel_rfl) ?_
  exact (cndT hp (fun _h => rfl))
theorem run_sHash : ∀ d, pre_sHash d = true → runP true Try.prog tt S20 QF20 (fun b => match b with | 0 => say_sHash_0 | _ => fun _ => none) Try.f145 (argsMk P_sHash d) = some (g_sHash d) := fun d hp => runA_sHash d.1 hp
theorem c_sHash : PContract Try.prog 145 (sumOf P_sHash pre_sHash g_sHash) := PContract.of_data true G20 (fn := Try.f145) (by kernel_rfl) (L := fun b => match b with | 0 => say_sHash_0 | _ => fun _ => none) (by rw [show loopsIn 0 (bodyOf Try.f145) = [(0, body_sHash_0)] by kernel_rfl]; intro p hp; simp only [List.mem_singleton] at hp; subst hp; exact lw_sHash_0) P_sHash pre_sHash g_sHash run_sHash
noncomputable def S21 : Tab := Tab.add S20 145 (lift (sumOf P_sHash pre_sHash g_sHash))
noncomputable def QF21 : FuncId → Bool := qadd QF20 145
theorem G21 : Good Try.prog tt S21 QF21 := G20.addQ c_sHash ⟨Try.f145, by kernel_rfl, by kernel_rfl, by kernel_rfl⟩ (fun _ => rfl)

/-! 121 loop.example/g00244/spec.ShardOf -/
noncomputable abbrev P_sShardOf : List PSh := [.t .str, .t (.int .i64)]
noncomputable def sShardOf (a0 : ByteArray) (a1 : Int) : Int := (cond (decide (a1 < (1 : Int))) (0 : Int) (Int.tmod (sHash a0) a1))
noncomputable abbrev e_sShardOf (r : Int) : AV × List AObj := ((.t true (.int .i64) r), [])
noncomputable abbrev g_sShardOf : pshsDen P_sShardOf → AV × List AObj := fun d => e_sShardOf (sShardOf d.1 d.2.1)
noncomputable def q_sShardOf (a0 : ByteArray) (a1 : Int) : Bool := cond (decide (a1 < (1 : Int))) true ((q_sHash a0) && (decide (a1 ≠ 0)))
noncomputable abbrev pre_sShardOf : pshsDen P_sShardOf → Bool := fun d => q_sShardOf d.1 d.2.1
theorem runA_sShardOf (a0 : ByteArray) (a1 : Int) (hp : (cond (decide (a1 < (1 : Int))) true ((q_sHash a0) && (decide (a1 ≠ 0)))) = true) : runP true Try.prog tt S21 QF21 (fun _ _ => none) Try.f121 (argsMk P_sShardOf (a0, (a1, ()))) = some (g_sShardOf (a0, (a1, ()))) := by
  refine Eq.trans (b := (cond (decide (a1 < (1 : Int))) (some (e_sShardOf (0 : Int))) (cond (q_sHash a0) (cond (decide (a1 ≠ 0)) (some (e_sShardOf (Int.tmod (sHash a0) a1))) none) none))) (by kernel_rfl) ?_
  exact (cndQ (F := fun r => some (e_sShardOf r)) hp (fun hp => rfl) (fun hp => (cndT (andL hp) (fun _h => (fun hp => (cndT hp (fun _h => rfl))) (andR hp)))))
theorem run_sShardOf : ∀ d, pre_sShardOf d = true → runP true Try.prog tt S21 QF21 (fun _ _ => none) Try.f121 (argsMk P_sShardOf d) = some (g_sShardOf d) := fun d hp => runA_sShardOf d.1 d.2.1 hp
theorem c_sShardOf : PContract Try.prog 121 (sumOf P_sShardOf pre_sShardOf g_sShardOf) := PContract.of_data true G21 (fn := Try.f121) (by kernel_rfl) (L := fun _ _ => none) (by rw [show loopsIn 0 (bodyOf Try.f121) = [] by kernel_rfl]; simp) P_sShardOf pre_sShardOf g_sShardOf run_sShardOf
noncomputable def S22 : Tab := Tab.add S21 121 (lift (sumOf P_sShardOf pre_sShardOf g_sShardOf))
noncomputable def QF22 : FuncId → Bool := qadd QF21 121
theorem G22 : Good Try.prog tt S22 QF22 := G21.addQ c_sShardOf ⟨Try.f121, by kernel_rfl, by kernel_rfl, by kernel_rfl⟩ (fun _ => rfl)

/-! 88 loop.example/g00244/spec.l7Has -/
noncomputable abbrev P_sl7Has : List PSh := [.t (.sl (.int .i64)), .t (.int .i64)]
noncomputable abbrev S_sl7Has_0 : SS := ⟨[.t false (.sl (.int .i64)), .t true (.int .i64), .junk, .junk, .junk, .t true (.int .i64), .junk, .junk, .junk, .junk, .junk, .junk, .junk, .junk, .junk, .junk, .junk, .junk], []⟩
noncomputable abbrev E_sl7Has_0_0 : SS := ⟨[.junk, .junk, .junk, .junk, .t true .bool, .junk, .junk, .junk, .junk, .junk, .junk, .junk, .junk, .junk, .junk, .junk, .junk, .junk], []⟩
noncomputable abbrev E_sl7Has_0_1 : SS := ⟨[.junk, .junk, .junk, .junk, .junk, .junk, .junk, .junk, .junk, .junk, .junk, .junk, .junk, .junk, .junk, .junk, .junk, .junk], []⟩
noncomputable def st_sl7Has_0 (x0 : List Int) (x1 : Int) (x5 : Int) : RT S_sl7Has_0.den := (.br (decide (x5 < ((x0.length : Nat) : Int))) (.br (decide (0 ≤ x5 ∧ x5 < ((x0.length : Nat) : Int))) (.br ((x0.getD x5.toNat (0 : Int)) == x1) (.done .ret E_sl7Has_0_0 (((), (), (), (), true, (), (), (), (), (), (), (), (), (), (), (), (), (), ()), ())) (.next ((x0, x1, (), (), (), IntKind.wrap .i64 (x5 + (1 : Int)), (), (), (), (), (), (), (), (), (), (), (), (), ()), ()))) .fail) (.done (.exit 0) E_sl7Has_0_1 (((), (), (), (), (), (), (), (), (), (), (), (), (), (), (), (), (), (), ()), ())))
noncomputable abbrev V_sl7Has_0 := (List Int) × (Int) × (Int)
noncomputable abbrev A_sl7Has_0 := Nat × (Bool)
noncomputable def fl_sl7Has_0 : A_sl7Has_0 := (99, (false : Bool))
noncomputable def ss_sl7Has_0 (x0 : List Int) (x1 : Int) (x5 : Int) : V_sl7Has_0 ⊕ A_sl7Has_0 := (cond (decide (x5 < ((x0.length : Nat) : Int))) (cond (decide (0 ≤ x5 ∧ x5 < ((x0.length : Nat) : Int))) (cond ((x0.getD x5.toNat (0 : Int)) == x1) (.inr (0, true)) (.inl (x0, x1, IntKind.wrap .i64 (x5 + (1 : Int))))) (.inr fl_sl7Has_0)) (.inr (1, (false : Bool))))
noncomputable def it_sl7Has_0 (x0 : List Int) (x1 : Int) (x5 : Int) : A_sl7Has_0 := itX (fun v : V_sl7Has_0 => ss_sl7Has_0 v.1 v.2.1 v.2.2) fl_sl7Has_0 (x0, x1, x5)
noncomputable def ct_sl7Has_0 (a : A_sl7Has_0) : CT := (.br (a.1 == 0) (.done .ret E_sl7Has_0_0 (((), (), (), (), a.2, (), (), (), (), (), (), (), (), (), (), (), (), (), ()), ())) (.br (a.1 == 1) (.done (.exit 0) E_sl7Has_0_1 (((), (), (), (), (), (), (), (), (), (), (), (), (), (), (), (), (), (), ()), ())) .fail))
noncomputable def T_sl7Has_0 (x0 : List Int) (x1 : Int) (x5 : Int) : CT := ct_sl7Has_0 (it_sl7Has_0 x0 x1 x5)
noncomputable abbrev sp_sl7Has_0 : S_sl7Has_0.den → RT S_sl7Has_0.den := fun d => st_sl7Has_0 d.1.1 d.1.2.1 d.1.2.2.2.2.2.1
noncomputable abbrev pk_sl7Has_0 (x0 : List Int) (x1 : Int) (x5 : Int) : S_sl7Has_0.den := ((x0, x1, (), (), (), x5, (), (), (), (), (), (), (), (), (), (), (), (), ()), ())
noncomputable def body_sl7Has_0 : Code := ((loopsIn 0 (bodyOf Try.f88)).getD 0 (0, .skip)).2
theorem R_sl7Has_0 (x0 : List Int) (x1 : Int) (x5 : Int) : (T_sl7Has_0 x0 x1 x5).val (D := S_sl7Has_0.den) = .fail ∨ Runs sp_sl7Has_0 (pk_sl7Has_0 x0 x1 x5) (T_sl7Has_0 x0 x1 x5).val := Runs.ofIt (step := sp_sl7Has_0) (fun v : V_sl7Has_0 => pk_sl7Has_0 v.1 v.2.1 v.2.2) (ct := ct_sl7Has_0) rfl (fun v => ((relB (relB (relB rfl rfl) rfl) rfl) : (st_sl7Has_0 v.1 v.2.1 v.2.2).val = relS (fun v : V_sl7Has_0 => pk_sl7Has_0 v.1 v.2.1 v.2.2) ct_sl7Has_0 (ss_sl7Has_0 v.1 v.2.1 v.2.2))) (fun a => ((cendB (cendD (by simp)) (cendB (cendD (by simp)) cendF)) : CEnd _ (ct_sl7Has_0 a))) (x0, x1, x5)
theorem rd_sl7Has_0 : ∀ d, execC Try.prog tt S22 QF22 (fun _ _ => none) 0 body_sl7Has_0 (S_sl7Has_0.st d 0 []) (fun e s' => some (e, S_sl7Has_0.cutE (kepts [4] [(0, [])]) e s')) = (sp_sl7Has_0 d).opt 0 [] := by
  intro d
  kernel_rfl
noncomputable abbrev say_sl7Has_0 : St → Option Tree := S_sl7Has_0.say 0 [] [] (fun d => T_sl7Has_0 d.1.1 d.1.2.1 d.1.2.2.2.2.2.1)
theorem lw_sl7Has_0 : LoopWp Try.prog say_sl7Has_0 body_sl7Has_0 := SS.wp G22 (fun _ _ => none) (by rw [show loopsIn 0 body_sl7Has_0 = [] by kernel_rfl]; simp) S_sl7Has_0 0 [] (kepts [4] [(0, [])]) [] sp_sl7Has_0 rd_sl7Has_0 _ (fun d => R_sl7Has_0 d.1.1 d.1.2.1 d.1.2.2.2.2.2.1)
noncomputable def sl7Has (a0 : List Int) (a1 : Int) : Bool := (cond ((it_sl7Has_0 a0 a1 (0 : Int)).1 == 0) ((it_sl7Has_0 a0 a1 (0 : Int)).2) false)
noncomputable abbrev e_sl7Has (r : Bool) : AV × List AObj := ((.t true .bool r), [])
noncomputable abbrev g_sl7Has : pshsDen P_sl7Has → AV × List AObj := fun d => e_sl7Has (sl7Has d.1 d.2.1)
noncomputable def q_sl7Has (a0 : List Int) (a1 : Int) : Bool := cond ((it_sl7Has_0 a0 a1 (0 : Int)).1 == 0) true ((it_sl7Has_0 a0 a1 (0 : Int)).1 == 1)
noncomputable abbrev pre_sl7Has : pshsDen P_sl7Has → Bool := fun d => q_sl7Has d.1 d.2.1
theorem runA_sl7Has (a0 : List Int) (a1 : Int) (hp : (cond ((it_sl7Has_0 a0 a1 (0 : Int)).1 == 0) true ((it_sl7Has_0 a0 a1 (0 : Int)).1 == 1)) = true) : runP true Try.prog tt S22 QF22 (fun b => match b with | 0 => say_sl7Has_0 | _ => fun _ => none) Try.f88 (argsMk P_sl7Has (a0, (a1, ()))) = some (g_sl7Has (a0, (a1, ()))) := by
  refine Eq.trans (b := (cond ((it_sl7Has_0 a0 a1 (0 : Int)).1 == 0) (some (e_sl7Has ((it_sl7Has_0 a0 a1 (0 : Int)).2))) (cond ((it_sl7Has_0 a0 a1 (0 : Int)).1 == 1) (some (e_sl7Has false)) none))) (by kernel_rfl) ?_
  exact (cndQ (F := fun r => some (e_sl7Has r)) hp (fun hp => rfl) (fun hp => (cndT hp (fun _h => rfl))))
theorem run_sl7Has : ∀ d, pre_sl7Has d = true → runP true Try.prog tt S22 QF22 (fun b => match b with | 0 => say_sl7Has_0 | _ => fun _ => none) Try.f88 (argsMk P_sl7Has d) = some (g_sl7Has d) := fun d hp => runA_sl7Has d.1 d.2.1 hp
theorem c_sl7Has : PContract Try.prog 88 (sumOf P_sl7Has pre_sl7Has g_sl7Has) := PContract.of_data true G22 (fn := Try.f88) (by kernel_rfl) (L := fun b => match b with | 0 => say_sl7Has_0 | _ => fun _ => none) (by rw [show loopsIn 0 (bodyOf Try.f88) = [(0, body_sl7Has_0)] by kernel_rfl]; intro p hp; simp only [List.mem_singleton] at hp; subst hp; exact lw_sl7Has_0) P_sl7Has pre_sl7Has g_sl7Has run_sl7Has
noncomputable def S23 : Tab := Tab.add S22 88 (lift (sumOf P_sl7Has pre_sl7Has g_sl7Has))
noncomputable def QF23 : FuncId → Bool := qadd QF22 88
theorem G23 : Good Try.prog tt S23 QF23 := G22.addQ c_sl7Has ⟨Try.f88, by kernel_rfl, by kernel_rfl, by kernel_rfl⟩ (fun _ => rfl)

/-! 107 loop.example/g00244/spec.l7Put -/
noncomputable abbrev SM_sl7Put : SS := ⟨[.all 0 1, .t true (.int .i64)], [.rows 3 true (.int .i64)]⟩
noncomputable abbrev S_sl7Put_0 : SS := ⟨[.junk, .t true (.int .i64), .junk, .junk, .junk, .all 1 1, .t true (.int .i64), .junk, .junk, .junk, .junk, .junk, .junk, .junk, .junk, .junk, .junk, .junk, .junk, .junk, .junk, .junk, .junk, .junk, .junk, .junk, .junk, .junk, .junk, .junk, .junk, .junk, .junk, .junk, .junk, .junk, .junk, .junk, .junk, .junk, .junk, .junk, .junk, .junk, .junk, .junk], [.rows 3 true (.int .i64), .rows 3 true (.int .i64)]⟩
noncomputable abbrev E_sl7Put_0_0 : SS := ⟨[.junk, .t true (.int .i64), .junk, .junk, .junk, .all 1 1, .t true (.int .i64), .junk, .junk, .junk, .junk, .junk, .junk, .junk, .junk, .junk, .junk, .junk, .junk, .junk, .junk, .junk, .junk, .junk, .junk, .junk, .junk, .junk, .junk, .junk, .junk, .junk, .junk, .junk, .junk, .junk, .junk, .junk, .junk, .junk, .junk, .junk, .junk, .junk, .junk, .junk], [.rows 3 true (.int .i64), .rows 3 true (.int .i64)]⟩
noncomputable def st_sl7Put_0 (x1 : Int) (x6 : Int) (h0 : List Int) (h1 : List Int) : RT S_sl7Put_0.den := (.br (decide (x6 > (0 : Int))) (.br (decide (0 ≤ (IntKind.wrap .i64 (x6 - (1 : Int))) ∧ (IntKind.wrap .i64 (x6 - (1 : Int))) < ((h1.length : Nat) : Int))) (.br (decide ((h1.getD ((IntKind.wrap .i64 (x6 - (1 : Int))).toNat) (0 : Int)) > x1)) (.br (decide (0 ≤ (IntKind.wrap .i64 (x6 - (1 : Int))) ∧ (IntKind.wrap .i64 (x6 - (1 : Int))) < ((h1.length : Nat) : Int))) (.br (decide (0 ≤ x6 ∧ x6 < ((h1.length : Nat) : Int))) (.next (((), x1, (), (), (), (), IntKind.wrap .i64 (x6 - (1 : Int)), (), (), (), (), (), (), (), (), (), (), (), (), (), (), (), (), (), (), (), (), (), (), (), (), (), (), (), (), (), (), (), (), (), (), (), (), (), (), (), ()), (h0, h1.set x6.toNat (h1.getD ((IntKind.wrap .i64 (x6 - (1 : Int))).toNat) (0 : Int)), ()))) .fail) .fail) (.done (.exit 0) E_sl7Put_0_0 (((), x1, (), (), (), (), x6, (), (), (), (), (), (), (), (), (), (), (), (), (), (), (), (), (), (), (), (), (), (), (), (), (), (), (), (), (), (), (), (), (), (), (), (), (), (), (), ()), (h0, h1, ())))) .fail) (.done (.exit 0) E_sl7Put_0_0 (((), x1, (), (), (), (), x6, (), (), (), (), (), (), (), (), (), (), (), (), (), (), (), (), (), (), (), (), (), (), (), (), (), (), (), (), (), (), (), (), (), (), (), (), (), (), (), ()), (h0, h1, ()))))
noncomputable abbrev V_sl7Put_0 := (Int) × (Int) × (List Int) × (List Int)
noncomputable abbrev A_sl7Put_0 := Nat × (Int) × (Int) × (List Int) × (List Int)
noncomputable def fl_sl7Put_0 : A_sl7Put_0 := (99, ((0 : Int) : Int), ((0 : Int) : Int), ([] : List Int), ([] : List Int))
noncomputable def ss_sl7Put_0 (x1 : Int) (x6 : Int) (h0 : List Int) (h1 : List Int) : V_sl7Put_0 ⊕ A_sl7Put_0 := (cond (decide (x6 > (0 : Int))) (cond (decide (0 ≤ (IntKind.wrap .i64 (x6 - (1 : Int))) ∧ (IntKind.wrap .i64 (x6 - (1 : Int))) < ((h1.length : Nat) : Int))) (cond (decide ((h1.getD ((IntKind.wrap .i64 (x6 - (1 : Int))).toNat) (0 : Int)) > x1)) (cond (decide (0 ≤ (IntKind.wrap .i64 (x6 - (1 : Int))) ∧ (IntKind.wrap .i64 (x6 - (1 : Int))) < ((h1.length : Nat) : Int))) (cond (decide (0 ≤ x6 ∧ x6 < ((h1.length : Nat) : Int))) (.inl (x1, IntKind.wrap .i64 (x6 - (1 : Int)), h0, h1.set x6.toNat (h1.getD ((IntKind.wrap .i64 (x6 - (1 : Int))).toNat) (0 : Int)))) (.inr fl_sl7Put_0)) (.inr fl_sl7Put_0)) (.inr (0, x1, x6, h0, h1))) (.inr fl_sl7Put_0)) (.inr (0, x1, x6, h0, h1)))
noncomputable def it_sl7Put_0 (x1 : Int) (x6 : Int) (h0 : List Int) (h1 : List Int) : A_sl7Put_0 := itX (fun v : V_sl7Put_0 => ss_sl7Put_0 v.1 v.2.1 v.2.2.1 v.2.2.2) fl_sl7Put_0 (x1, x6, h0, h1)
noncomputable def ct_sl7Put_0 (a : A_sl7Put_0) : CT := (.br (a.1 == 0) (.done (.exit 0) E_sl7Put_0_0 (((), a.2.1, (), (), (), (), a.2.2.1, (), (), (), (), (), (), (), (), (), (), (), (), (), (), (), (), (), (), (), (), (), (), (), (), (), (), (), (), (), (), (), (), (), (), (), (), (), (), (), ()), (a.2.2.2.1, a.2.2.2.2, ()))) .fail)
noncomputable def T_sl7Put_0 (x1 : Int) (x6 : Int) (h0 : List Int) (h1 : List Int) : CT := ct_sl7Put_0 (it_sl7Put_0 x1 x6 h0 h1)
noncomputable abbrev sp_sl7Put_0 : S_sl7Put_0.den → RT S_sl7Put_0.den := fun d => st_sl7Put_0 d.1.2.1 d.1.2.2.2.2.2.2.1 d.2.1 d.2.2.1
noncomputable abbrev pk_sl7Put_0 (x1 : Int) (x6 : Int) (h0 : List Int) (h1 : List Int) : S_sl7Put_0.den := (((), x1, (), (), (), (), x6, (), (), (), (), (), (), (), (), (), (), (), (), (), (), (), (), (), (), (), (), (), (), (), (), (), (), (), (), (), (), (), (), (), (), (), (), (), (), (), ()), (h0, h1, ()))
noncomputable def body_sl7Put_0 : Code := ((loopsIn 0 (bodyOf Try.f107)).getD 0 (0, .skip)).2
theorem R_sl7Put_0 (x1 : Int) (x6 : Int) (h0 : List Int) (h1 : List Int) : (T_sl7Put_0 x1 x6 h0 h1).val (D := S_sl7Put_0.den) = .fail ∨ Runs sp_sl7Put_0 (pk_sl7Put_0 x1 x6 h0 h1) (T_sl7Put_0 x1 x6 h0 h1).val := Runs.ofIt (step := sp_sl7Put_0) (fun v : V_sl7Put_0 => pk_sl7Put_0 v.1 v.2.1 v.2.2.1 v.2.2.2) (ct := ct_sl7Put_0) rfl (fun v => ((relB (relB (relB (relB (relB rfl rfl) rfl) rfl) rfl) rfl) : (st_sl7Put_0 v.1 v.2.1 v.2.2.1 v.2.2.2).val = relS (fun v : V_sl7Put_0 => pk_sl7Put_0 v.1 v.2.1 v.2.2.1 v.2.2.2) ct_sl7Put_0 (ss_sl7Put_0 v.1 v.2.1 v.2.2.1 v.2.2.2))) (fun a => ((cendB (cendD (by simp)) cendF) : CEnd _ (ct_sl7Put_0 a))) (x1, x6, h0, h1)
theorem rd_sl7Put_0 : ∀ d, execC Try.prog tt S23 QF23 (fun _ _ => none) 0 body_sl7Put_0 (S_sl7Put_0.st d 1 []) (fun e s' => some (e, S_sl7Put_0.cutE (kepts [] [(0, [1, 5, 6])]) e s')) = (sp_sl7Put_0 d).opt 1 [] := by
  intro d
  kernel_rfl
noncomputable abbrev say_sl7Put_0 : St → Option Tree := S_sl7Put_0.say 1 [] [] (fun d => T_sl7Put_0 d.1.2.1 d.1.2.2.2.2.2.2.1 d.2.1 d.2.2.1)
theorem lw_sl7Put_0 : LoopWp Try.prog say_sl7Put_0 body_sl7Put_0 := SS.wp G23 (fun _ _ => none) (by rw [show loopsIn 0 body_sl7Put_0 = [] by kernel_rfl]; simp) S_sl7Put_0 1 [] (kepts [] [(0, [1, 5, 6])]) [] sp_sl7Put_0 rd_sl7Put_0 _ (fun d => R_sl7Put_0 d.1.2.1 d.1.2.2.2.2.2.2.1 d.2.1 d.2.2.1)
noncomputable def k1_sl7Put (x1 : Int) (h0 : List Int) := it_sl7Put_0 x1 (IntKind.wrap .i64 (((((([] : List Int) ++ h0) ++ [x1]).length : Nat) : Int) - (1 : Int))) h0 ((([] : List Int) ++ h0) ++ [x1])
noncomputable def sl7Put (x1 : Int) (h0 : List Int) : List Int := (cond (sl7Has h0 x1) h0 (((k1_sl7Put x1 h0).2.2.2.2).set (((k1_sl7Put x1 h0).2.2.1).toNat) ((k1_sl7Put x1 h0).2.1)))
noncomputable abbrev e_sl7Put (r : List Int) : AV × List AObj × List Nat := ((.t true (.sl (.int .i64)) r), [.dead], [])
noncomputable abbrev g_sl7Put : SM_sl7Put.den → AV × List AObj × List Nat := fun d => e_sl7Put (sl7Put d.1.2.1 d.2.1)
noncomputable def q_sl7Put (x1 : Int) (h0 : List Int) : Bool := (q_sl7Has h0 x1) && (cond (sl7Has h0 x1) true ((decide ((([] : List Int).length + h0.length) * 8 ≤ MAXB)) && ((decide (((([] : List Int) ++ h0).length + [x1].length) * 8 ≤ MAXB)) && (((k1_sl7Put x1 h0).1 == 0) && (decide (0 ≤ ((k1_sl7Put x1 h0).2.2.1) ∧ ((k1_sl7Put x1 h0).2.2.1) < ((((k1_sl7Put x1 h0).2.2.2.2).length : Nat) : Int)))))))
noncomputable abbrev pre_sl7Put : SM_sl7Put.den → Bool := fun d => q_sl7Put d.1.2.1 d.2.1
theorem runA_sl7Put (x1 : Int) (h0 : List Int) (hp : ((q_sl7Has h0 x1) && (cond (sl7Has h0 x1) true ((decide ((([] : List Int).length + h0.length) * 8 ≤ MAXB)) && ((decide (((([] : List Int) ++ h0).length + [x1].length) * 8 ≤ MAXB)) && (((k1_sl7Put x1 h0).1 == 0) && (decide (0 ≤ ((k1_sl7Put x1 h0).2.2.1) ∧ ((k1_sl7Put x1 h0).2.2.1) < ((((k1_sl7Put x1 h0).2.2.2.2).length : Nat) : Int)))))))) = true) : runMR Try.prog tt S23 QF23 (fun b => match b with | 0 => say_sl7Put_0 | _ => fun _ => none) Try.f107 (shsMk SM_sl7Put.sl ((((), x1, ()), (h0, ())) : SM_sl7Put.den).1) (ohsMk SM_sl7Put.hp ((((), x1, ()), (h0, ())) : SM_sl7Put.den).2) [.all 0 1] = some (g_sl7Put (((), x1, ()), (h0, ()))) := by
  refine Eq.trans (b := (cond (q_sl7Has h0 x1) (cond (sl7Has h0 x1) (some (e_sl7Put h0)) (cond (decide ((([] : List Int).length + h0.length) * 8 ≤ MAXB)) (cond (decide (((([] : List Int) ++ h0).length + [x1].length) * 8 ≤ MAXB)) (cond ((k1_sl7Put x1 h0).1 == 0) (cond (decide (0 ≤ ((k1_sl7Put x1 h0).2.2.1) ∧ ((k1_sl7Put x1 h0).2.2.1) < ((((k1_sl7Put x1 h0).2.2.2.2).length : Nat) : Int))) (some (e_sl7Put (((k1_sl7Put x1 h0).2.2.2.2).set (((k1_sl7Put x1 h0).2.2.1).toNat) ((k1_sl7Put x1 h0).2.1)))) none) none) none) none)) none)) (by kernel_rfl) ?_
  exact (cndT (andL hp) (fun _h => (fun hp => (cndQ (F := fun r => some (e_sl7Put r)) hp (fun hp => rfl) (fun hp => (cndT (andL hp) (fun _h => (fun hp => (cndT (andL hp) (fun _h => (fun hp => (cndT (andL hp) (fun _h => (fun hp => (cndT hp (fun _h => rfl))) (andR hp)))) (andR hp)))) (andR hp)))))) (andR hp)))
theorem run_sl7Put : ∀ d : SM_sl7Put.den, pre_sl7Put d = true → runMR Try.prog tt S23 QF23 (fun b => match b with | 0 => say_sl7Put_0 | _ => fun _ => none) Try.f107 (shsMk SM_sl7Put.sl (d : SM_sl7Put.den).1) (ohsMk SM_sl7Put.hp (d : SM_sl7Put.den).2) [.all 0 1] = some (g_sl7Put d) := fun d hp => runA_sl7Put d.1.2.1 d.2.1 hp
theorem c_sl7Put : MContract Try.prog 107 (win winIds (msum SM_sl7Put pre_sl7Put g_sl7Put)) := (MContract.of_dataRD [.all 0 1]  G23 (fn := Try.f107) (by kernel_rfl) (L := fun b => match b with | 0 => say_sl7Put_0 | _ => fun _ => none) (by rw [show loopsIn 0 (bodyOf Try.f107) = [(0, body_sl7Put_0)] by kernel_rfl]; intro p hp; simp only [List.mem_singleton] at hp; subst hp; exact lw_sl7Put_0) SM_sl7Put pre_sl7Put g_sl7Put run_sl7Put).win winIds
noncomputable def S24 : Tab := Tab.add S23 107 (win winIds (msum SM_sl7Put pre_sl7Put g_sl7Put))
noncomputable def QF24 : FuncId → Bool := QF23
theorem G24 : Good Try.prog tt S24 QF24 := G23.addM c_sl7Put (win_local _) ⟨Try.f107, by kernel_rfl, by kernel_rfl, by kernel_rfl⟩ (by kernel_rfl)

/-! 107 loop.example/g00244/spec.l7Put -/
noncomputable abbrev SM_sl7Put_w1 : SS := ⟨[.t true (.sl (.int .i64)), .t true (.int .i64)], []⟩
noncomputable abbrev S_sl7Put_w1_0 : SS := ⟨[.junk, .t true (.int .i64), .junk, .junk, .junk, .all 0 1, .t true (.int .i64), .junk, .junk, .junk, .junk, .junk, .junk, .junk, .junk, .junk, .junk, .junk, .junk, .junk, .junk, .junk, .junk, .junk, .junk, .junk, .junk, .junk, .junk, .junk, .junk, .junk, .junk, .junk, .junk, .junk, .junk, .junk, .junk, .junk, .junk, .junk, .junk, .junk, .junk, .junk], [.rows 3 true (.int .i64)]⟩
noncomputable abbrev E_sl7Put_w1_0_0 : SS := ⟨[.junk, .t true (.int .i64), .junk, .junk, .junk, .all 0 1, .t true (.int .i64), .junk, .junk, .junk, .junk, .junk, .junk, .junk, .junk, .junk, .junk, .junk, .junk, .junk, .junk, .junk, .junk, .junk, .junk, .junk, .junk, .junk, .junk, .junk, .junk, .junk, .junk, .junk, .junk, .junk, .junk, .junk, .junk, .junk, .junk, .junk, .junk, .junk, .junk, .junk], [.rows 3 true (.int .i64)]⟩
noncomputable def st_sl7Put_w1_0 (x1 : Int) (x6 : Int) (h0 : List Int) : RT S_sl7Put_w1_0.den := (.br (decide (x6 > (0 : Int))) (.br (decide (0 ≤ (IntKind.wrap .i64 (x6 - (1 : Int))) ∧ (IntKind.wrap .i64 (x6 - (1 : Int))) < ((h0.length : Nat) : Int))) (.br (decide ((h0.getD ((IntKind.wrap .i64 (x6 - (1 : Int))).toNat) (0 : Int)) > x1)) (.br (decide (0 ≤ (IntKind.wrap .i64 (x6 - (1 : Int))) ∧ (IntKind.wrap .i64 (x6 - (1 : Int))) < ((h0.length : Nat) : Int))) (.br (decide (0 ≤ x6 ∧ x6 < ((h0.length : Nat) : Int))) (.next (((), x1, (), (), (), (), IntKind.wrap .i64 (x6 - (1 : Int)), (), (), (), (), (), (), (), (), (), (), (), (), (), (), (), (), (), (), (), (), (), (), (), (), (), (), (), (), (), (), (), (), (), (), (), (), (), (), (), ()), (h0.set x6.toNat (h0.getD ((IntKind.wrap .i64 (x6 - (1 : Int))).toNat) (0 : Int)), ()))) .fail) .fail) (.done (.exit 0) E_sl7Put_w1_0_0 (((), x1, (), (), (), (), x6, (), (), (), (), (), (), (), (), (), (), (), (), (), (), (), (), (), (), (), (), (), (), (), (), (), (), (), (), (), (), (), (), (), (), (), (), (), (), (), ()), (h0, ())))) .fail) (.done (.exit 0) E_sl7Put_w1_0_0 (((), x1, (), (), (), (), x6, (), (), (), (), (), (), (), (), (), (), (), (), (), (), (), (), (), (), (), (), (), (), (), (), (), (), (), (), (), (), (), (), (), (), (), (), (), (), (), ()), (h0, ()))))
noncomputable abbrev V_sl7Put_w1_0 := (Int) × (Int) × (List Int)
noncomputable abbrev A_sl7Put_w1_0 := Nat × (Int) × (Int) × (List Int)
noncomputable def fl_sl7Put_w1_0 : A_sl7Put_w1_0 := (99, ((0 : Int) : Int), ((0 : Int) : Int), ([] : List Int))
noncomputable def ss_sl7Put_w1_0 (x1 : Int) (x6 : Int) (h0 : List Int) : V_sl7Put_w1_0 ⊕ A_sl7Put_w1_0 := (cond (decide (x6 > (0 : Int))) (cond (decide (0 ≤ (IntKind.wrap .i64 (x6 - (1 : Int))) ∧ (IntKind.wrap .i64 (x6 - (1 : Int))) < ((h0.length : Nat) : Int))) (cond (decide ((h0.getD ((IntKind.wrap .i64 (x6 - (1 : Int))).toNat) (0 : Int)) > x1)) (cond (decide (0 ≤ (IntKind.wrap .i64 (x6 - (1 : Int))) ∧ (IntKind.wrap .i64 (x6 - (1 : Int))) < ((h0.length : Nat) : Int))) (cond (decide (0 ≤ x6 ∧ x6 < ((h0.length : Nat) : Int))) (.inl (x1, IntKind.wrap .i64 (x6 - (1 : Int)), h0.set x6.toNat (h0.getD ((IntKind.wrap .i64 (x6 - (1 : Int))).toNat) (0 : Int)))) (.inr fl_sl7Put_w1_0)) (.inr fl_sl7Put_w1_0)) (.inr (0, x1, x6, h0))) (.inr fl_sl7Put_w1_0)) (.inr (0, x1, x6, h0)))
noncomputable def it_sl7Put_w1_0 (x1 : Int) (x6 : Int) (h0 : List Int) : A_sl7Put_w1_0 := itX (fun v : V_sl7Put_w1_0 => ss_sl7Put_w1_0 v.1 v.2.1 v.2.2) fl_sl7Put_w1_0 (x1, x6, h0)
noncomputable def ct_sl7Put_w1_0 (a : A_sl7Put_w1_0) : CT := (.br (a.1 == 0) (.done (.exit 0) E_sl7Put_w1_0_0 (((), a.2.1, (), (), (), (), a.2.2.1, (), (), (), (), (), (), (), (), (), (), (), (), (), (), (), (), (), (), (), (), (), (), (), (), (), (), (), (), (), (), (), (), (), (), (), (), (), (), (), ()), (a.2.2.2, ()))) .fail)
noncomputable def T_sl7Put_w1_0 (x1 : Int) (x6 : Int) (h0 : List Int) : CT := ct_sl7Put_w1_0 (it_sl7Put_w1_0 x1 x6 h0)
noncomputable abbrev sp_sl7Put_w1_0 : S_sl7Put_w1_0.den → RT S_sl7Put_w1_0.den := fun d => st_sl7Put_w1_0 d.1.2.1 d.1.2.2.2.2.2.2.1 d.2.1
noncomputable abbrev pk_sl7Put_w1_0 (x1 : Int) (x6 : Int) (h0 : List Int) : S_sl7Put_w1_0.den := (((), x1, (), (), (), (), x6, (), (), (), (), (), (), (), (), (), (), (), (), (), (), (), (), (), (), (), (), (), (), (), (), (), (), (), (), (), (), (), (), (), (), (), (), (), (), (), ()), (h0, ()))
noncomputable def body_sl7Put_w1_0 : Code := ((loopsIn 0 (bodyOf Try.f107)).getD 0 (0, .skip)).2
theorem R_sl7Put_w1_0 (x1 : Int) (x6 : Int) (h0 : List Int) : (T_sl7Put_w1_0 x1 x6 h0).val (D := S_sl7Put_w1_0.den) = .fail ∨ Runs sp_sl7Put_w1_0 (pk_sl7Put_w1_0 x1 x6 h0) (T_sl7Put_w1_0 x1 x6 h0).val := Runs.ofIt (step := sp_sl7Put_w1_0) (fun v : V_sl7Put_w1_0 => pk_sl7Put_w1_0 v.1 v.2.1 v.2.2) (ct := ct_sl7Put_w1_0) rfl (fun v => ((relB (relB (relB (relB (relB rfl rfl) rfl) rfl) rfl) rfl) : (st_sl7Put_w1_0 v.1 v.2.1 v.2.2).val = relS (fun v : V_sl7Put_w1_0 => pk_sl7Put_w1_0 v.1 v.2.1 v.2.2) ct_sl7Put_w1_0 (ss_sl7Put_w1_0 v.1 v.2.1 v.2.2))) (fun a => ((cendB (cendD (by simp)) cendF) : CEnd _ (ct_sl7Put_w1_0 a))) (x1, x6, h0)
theorem rd_sl7Put_w1_0 : ∀ d, execC Try.prog tt S24 QF24 (fun _ _ => none) 0 body_sl7Put_w1_0 (S_sl7Put_w1_0.st d 0 []) (fun e s' => some (e, S_sl7Put_w1_0.cutE (kepts [] [(0, [1, 5, 6])]) e s')) = (sp_sl7Put_w1_0 d).opt 0 [] := by
  intro d
  kernel_rfl
noncomputable abbrev say_sl7Put_w1_0 : St → Option Tree := S_sl7Put_w1_0.say 0 [] [] (fun d => T_sl7Put_w1_0 d.1.2.1 d.1.2.2.2.2.2.2.1 d.2.1)
theorem lw_sl7Put_w1_0 : LoopWp Try.prog say_sl7Put_w1_0 body_sl7Put_w1_0 := SS.wp G24 (fun _ _ => none) (by rw [show loopsIn 0 body_sl7Put_w1_0 = [] by kernel_rfl]; simp) S_sl7Put_w1_0 0 [] (kepts [] [(0, [1, 5, 6])]) [] sp_sl7Put_w1_0 rd_sl7Put_w1_0 _ (fun d => R_sl7Put_w1_0 d.1.2.1 d.1.2.2.2.2.2.2.1 d.2.1)
noncomputable def k1_sl7Put_w1 (x0 : List Int) (x1 : Int) := it_sl7Put_w1_0 x1 (IntKind.wrap .i64 (((((([] : List Int) ++ x0) ++ [x1]).length : Nat) : Int) - (1 : Int))) ((([] : List Int) ++ x0) ++ [x1])
noncomputable def sl7Put_w1 (x0 : List Int) (x1 : Int) : List Int := (cond (sl7Has x0 x1) x0 (((k1_sl7Put_w1 x0 x1).2.2.2).set (((k1_sl7Put_w1 x0 x1).2.2.1).toNat) ((k1_sl7Put_w1 x0 x1).2.1)))
noncomputable abbrev e_sl7Put_w1 (r : List Int) : AV × List AObj × List Nat := ((.t true (.sl (.int .i64)) r), [], [])
noncomputable abbrev g_sl7Put_w1 : SM_sl7Put_w1.den → AV × List AObj × List Nat := fun d => e_sl7Put_w1 (sl7Put_w1 d.1.1 d.1.2.1)
noncomputable def q_sl7Put_w1 (x0 : List Int) (x1 : Int) : Bool := (q_sl7Has x0 x1) && (cond (sl7Has x0 x1) true ((decide ((([] : List Int).length + x0.length) * 8 ≤ MAXB)) && ((decide (((([] : List Int) ++ x0).length + [x1].length) * 8 ≤ MAXB)) && (((k1_sl7Put_w1 x0 x1).1 == 0) && (decide (0 ≤ ((k1_sl7Put_w1 x0 x1).2.2.1) ∧ ((k1_sl7Put_w1 x0 x1).2.2.1) < ((((k1_sl7Put_w1 x0 x1).2.2.2).length : Nat) : Int)))))))
noncomputable abbrev pre_sl7Put_w1 : SM_sl7Put_w1.den → Bool := fun d => q_sl7Put_w1 d.1.1 d.1.2.1
theorem runA_sl7Put_w1 (x0 : List Int) (x1 : Int) (hp : ((q_sl7Has x0 x1) && (cond (sl7Has x0 x1) true ((decide ((([] : List Int).length + x0.length) * 8 ≤ MAXB)) && ((decide (((([] : List Int) ++ x0).length + [x1].length) * 8 ≤ MAXB)) && (((k1_sl7Put_w1 x0 x1).1 == 0) && (decide (0 ≤ ((k1_sl7Put_w1 x0 x1).2.2.1) ∧ ((k1_sl7Put_w1 x0 x1).2.2.1) < ((((k1_sl7Put_w1 x0 x1).2.2.2).length : Nat) : Int)))))))) = true) : runMR Try.prog tt S24 QF24 (fun b => match b with | 0 => say_sl7Put_w1_0 | _ => fun _ => none) Try.f107 (shsMk SM_sl7Put_w1.sl (((x0, x1, ()), ()) : SM_sl7Put_w1.den).1) (ohsMk SM_sl7Put_w1.hp (((x0, x1, ()), ()) : SM_sl7Put_w1.den).2) = some (g_sl7Put_w1 ((x0, x1, ()), ())) := by
  refine Eq.trans (b := (cond (q_sl7Has x0 x1) (cond (sl7Has x0 x1) (some (e_sl7Put_w1 x0)) (cond (decide ((([] : List Int).length + x0.length) * 8 ≤ MAXB)) (cond (decide (((([] : List Int) ++ x0).length + [x1].length) * 8 ≤ MAXB)) (cond ((k1_sl7Put_w1 x0 x1).1 == 0) (cond (decide (0 ≤ ((k1_sl7Put_w1 x0 x1).2.2.1) ∧ ((k1_sl7Put_w1 x0 x1).2.2.1) < ((((k1_sl7Put_w1 x0 x1).2.2.2).length : Nat) : Int))) (some (e_sl7Put_w1 (((k1_sl7Put_w1 x0 x1).2.2.2).set (((k1_sl7Put_w1 x0 x1).2.2.1).toNat) ((k1_sl7Put_w1 x0 x1).2.1)))) none) none) none) none)) none)) (by kernel_rfl) ?_
  exact (cndT (andL hp) (fun _h => (fun hp => (cndQ (F := fun r => some (e_sl7Put_w1 r)) hp (fun hp => rfl) (fun hp => (cndT (andL hp) (fun _h => (fun hp => (cndT (andL hp) (fun _h => (fun hp => (cndT (andL hp) (fun _h => (fun hp => (cndT hp (fun _h => rfl))) (andR hp)))) (andR hp)))) (andR hp)))))) (andR hp)))
theorem run_sl7Put_w1 : ∀ d : SM_sl7Put_w1.den, pre_sl7Put_w1 d = true → runMR Try.prog tt S24 QF24 (fun b => match b with | 0 => say_sl7Put_w1_0 | _ => fun _ => none) Try.f107 (shsMk SM_sl7Put_w1.sl (d : SM_sl7Put_w1.den).1) (ohsMk SM_sl7Put_w1.hp (d : SM_sl7Put_w1.den).2) = some (g_sl7Put_w1 d) := fun d hp => runA_sl7Put_w1 d.1.1 d.1.2.1 hp
theorem c_sl7Put_w1 : MContract Try.prog 107 (win winIds (msum SM_sl7Put_w1 pre_sl7Put_w1 g_sl7Put_w1)) := (MContract.of_dataR G24 (fn := Try.f107) (by kernel_rfl) (L := fun b => match b with | 0 => say_sl7Put_w1_0 | _ => fun _ => none) (by rw [show loopsIn 0 (bodyOf Try.f107) = [(0, body_sl7Put_w1_0)] by kernel_rfl]; intro p hp; simp only [List.mem_singleton] at hp; subst hp; exact lw_sl7Put_w1_0) SM_sl7Put_w1 pre_sl7Put_w1 g_sl7Put_w1 run_sl7Put_w1).win winIds
noncomputable def S25 : Tab := Tab.add S24 107 (orElseS (win winIds (msum SM_sl7Put pre_sl7Put g_sl7Put)) (win winIds (msum SM_sl7Put_w1 pre_sl7Put_w1 g_sl7Put_w1)))
noncomputable def QF25 : FuncId → Bool := QF24
theorem G25 : Good Try.prog tt S25 QF25 := G24.addM (MContract.orElse c_sl7Put c_sl7Put_w1) (orElse_local (win_local _) (win_local _)) ⟨Try.f107, by kernel_rfl, by kernel_rfl, by kernel_rfl⟩ (by kernel_rfl)

/-! 87 loop.example/g00244/spec.ShardsOf -/
noncomputable abbrev P_sShardsOf : List PSh := [.t (.sl (.pair (.int .i64) (.pair .str .str))), .t (.int .i64)]
noncomputable abbrev S_sShardsOf_0 : SS := ⟨[.t false (.sl (.pair (.int .i64) (.pair .str .str))), .t true (.int .i64), .junk, .junk, .junk, .t true (.sl (.int .i64)), .t true (.int .i64), .junk, .junk, .junk, .junk, .junk, .junk, .junk, .junk, .junk, .junk, .junk, .junk, .junk, .junk, .junk, .junk, .junk], []⟩
noncomputable abbrev E_sShardsOf_0_0 : SS := ⟨[.junk, .junk, .junk, .junk, .junk, .t true (.sl (.int .i64)), .junk, .junk, .junk, .junk, .junk, .junk, .junk, .junk, .junk, .junk, .junk, .junk, .junk, .junk, .junk, .junk, .junk, .junk], []⟩
noncomputable def k1_sShardsOf (x0 : List (Int × ByteArray × ByteArray)) (x1 : Int) (x6 : Int) := sShardOf (((x0.getD x6.toNat ((0 : Int), ((⟨#[]⟩ : ByteArray), (⟨#[]⟩ : ByteArray)))).2).1) x1
noncomputable def st_sShardsOf_0 (x0 : List (Int × ByteArray × ByteArray)) (x1 : Int) (x5 : List Int) (x6 : Int) : RT S_sShardsOf_0.den := (.br (decide (x6 < ((x0.length : Nat) : Int))) (.br (decide (0 ≤ x6 ∧ x6 < ((x0.length : Nat) : Int))) (.br (q_sShardOf (((x0.getD x6.toNat ((0 : Int), ((⟨#[]⟩ : ByteArray), (⟨#[]⟩ : ByteArray)))).2).1) x1) (.br (q_sl7Put_w1 x5 (k1_sShardsOf x0 x1 x6)) (.next ((x0, x1, (), (), (), (sl7Put_w1 x5 (k1_sShardsOf x0 x1 x6)), IntKind.wrap .i64 (x6 + (1 : Int)), (), (), (), (), (), (), (), (), (), (), (), (), (), (), (), (), (), ()), ())) .fail) .fail) .fail) (.done (.exit 0) E_sShardsOf_0_0 (((), (), (), (), (), x5, (), (), (), (), (), (), (), (), (), (), (), (), (), (), (), (), (), (), ()), ())))
noncomputable abbrev V_sShardsOf_0 := (List (Int × ByteArray × ByteArray)) × (Int) × (List Int) × (Int)
noncomputable abbrev A_sShardsOf_0 := Nat × (List Int)
noncomputable def fl_sShardsOf_0 : A_sShardsOf_0 := (99, ([] : List Int))
noncomputable def ss_sShardsOf_0 (x0 : List (Int × ByteArray × ByteArray)) (x1 : Int) (x5 : List Int) (x6 : Int) : V_sShardsOf_0 ⊕ A_sShardsOf_0 := (cond (decide (x6 < ((x0.length : Nat) : Int))) (cond (decide (0 ≤ x6 ∧ x6 < ((x0.length : Nat) : Int))) (cond (q_sShardOf (((x0.getD x6.toNat ((0 : Int), ((⟨#[]⟩ : ByteArray), (⟨#[]⟩ : ByteArray)))).2).1) x1) (cond (q_sl7Put_w1 x5 (k1_sShardsOf x0 x1 x6)) (.inl (x0, x1, (sl7Put_w1 x5 (k1_sShardsOf x0 x1 x6)), IntKind.wrap .i64 (x6 + (1 : Int)))) (.inr fl_sShardsOf_0)) (.inr fl_sShardsOf_0)) (.inr fl_sShardsOf_0)) (.inr (0, x5)))
noncomputable def it_sShardsOf_0 (x0 : List (Int × ByteArray × ByteArray)) (x1 : Int) (x5 : List Int) (x6 : Int) : A_sShardsOf_0 := itX (fun v : V_sShardsOf_0 => ss_sShardsOf_0 v.1 v.2.1 v.2.2.1 v.2.2.2) fl_sShardsOf_0 (x0, x1, x5, x6)
noncomputable def ct_sShardsOf_0 (a : A_sShardsOf_0) : CT := (.br (a.1 == 0) (.done (.exit 0) E_sShardsOf_0_0 (((), (), (), (), (), a.2, (), (), (), (), (), (), (), (), (), (), (), (), (), (), (), (), (), (), ()), ())) .fail)
noncomputable def T_sShardsOf_0 (x0 : List (Int × ByteArray × ByteArray)) (x1 : Int) (x5 : List Int) (x6 : Int) : CT := ct_sShardsOf_0 (it_sShardsOf_0 x0 x1 x5 x6)
noncomputable abbrev sp_sShardsOf_0 : S_sShardsOf_0.den → RT S_sShardsOf_0.den := fun d => st_sShardsOf_0 d.1.1 d.1.2.1 d.1.2.2.2.2.2.1 d.1.2.2.2.2.2.2.1
noncomputable abbrev pk_sShardsOf_0 (x0 : List (Int × ByteArray × ByteArray)) (x1 : Int) (x5 : List Int) (x6 : Int) : S_sShardsOf_0.den := ((x0, x1, (), (), (), x5, x6, (), (), (), (), (), (), (), (), (), (), (), (), (), (), (), (), (), ()), ())
noncomputable def body_sShardsOf_0 : Code := ((loopsIn 0 (bodyOf Try.f87)).getD 0 (0, .skip)).2
theorem R_sShardsOf_0 (x0 : List (Int × ByteArray × ByteArray)) (x1 : Int) (x5 : List Int) (x6 : Int) : (T_sShardsOf_0 x0 x1 x5 x6).val (D := S_sShardsOf_0.den) = .fail ∨ Runs sp_sShardsOf_0 (pk_sShardsOf_0 x0 x1 x5 x6) (T_sShardsOf_0 x0 x1 x5 x6).val := Runs.ofIt (step := sp_sShardsOf_0) (fun v : V_sShardsOf_0 => pk_sShardsOf_0 v.1 v.2.1 v.2.2.1 v.2.2.2) (ct := ct_sShardsOf_0) rfl (fun v => ((relB (relB (relB (relB rfl rfl) rfl) rfl) rfl) : (st_sShardsOf_0 v.1 v.2.1 v.2.2.1 v.2.2.2).val = relS (fun v : V_sShardsOf_0 => pk_sShardsOf_0 v.1 v.2.1 v.2.2.1 v.2.2.2) ct_sShardsOf_0 (ss_sShardsOf_0 v.1 v.2.1 v.2.2.1 v.2.2.2))) (fun a => ((cendB (cendD (by simp)) cendF) : CEnd _ (ct_sShardsOf_0 a))) (x0, x1, x5, x6)
theorem rd_sShardsOf_0 : ∀ d, execC Try.prog tt S25 QF25 (fun _ _ => none) 0 body_sShardsOf_0 (S_sShardsOf_0.st d 0 []) (fun e s' => some (e, S_sShardsOf_0.cutE (kepts [] [(0, [5])]) e s')) = (sp_sShardsOf_0 d).opt 0 [] := by
  intro d
  kernel_rfl
noncomputable abbrev say_sShardsOf_0 : St → Option Tree := S_sShardsOf_0.say 0 [] [(5, 1000000, .bool)] (fun d => T_sShardsOf_0 d.1.1 d.1.2.1 d.1.2.2.2.2.2.1 d.1.2.2.2.2.2.2.1)
theorem lw_sShardsOf_0 : LoopWp Try.prog say_sShardsOf_0 body_sShardsOf_0 := SS.wp G25 (fun _ _ => none) (by rw [show loopsIn 0 body_sShardsOf_0 = [] by kernel_rfl]; simp) S_sShardsOf_0 0 [] (kepts [] [(0, [5])]) [(5, 1000000, .bool)] sp_sShardsOf_0 rd_sShardsOf_0 _ (fun d => R_sShardsOf_0 d.1.1 d.1.2.1 d.1.2.2.2.2.2.1 d.1.2.2.2.2.2.2.1)
noncomputable def sShardsOf (a0 : List (Int × ByteArray × ByteArray)) (a1 : Int) : List Int := ((it_sShardsOf_0 a0 a1 ([] : List Int) (0 : Int)).2)
noncomputable abbrev e_sShardsOf (r : List Int) : AV × List AObj := ((.t true (.sl (.int .i64)) r), [])
noncomputable abbrev g_sShardsOf : pshsDen P_sShardsOf → AV × List AObj := fun d => e_sShardsOf (sShardsOf d.1 d.2.1)
noncomputable def q_sShardsOf (a0 : List (Int × ByteArray × ByteArray)) (a1 : Int) : Bool := ((it_sShardsOf_0 a0 a1 ([] : List Int) (0 : Int)).1 == 0)
noncomputable abbrev pre_sShardsOf : pshsDen P_sShardsOf → Bool := fun d => q_sShardsOf d.1 d.2.1
theorem runA_sShardsOf (a0 : List (Int × ByteArray × ByteArray)) (a1 : Int) (hp : (((it_sShardsOf_0 a0 a1 ([] : List Int) (0 : Int)).1 == 0)) = true) : runP true Try.prog tt S25 QF25 (fun b => match b with | 0 => say_sShardsOf_0 | _ => fun _ => none) Try.f87 (argsMk P_sShardsOf (a0, (a1, ()))) = some (g_sShardsOf (a0, (a1, ()))) := by
  refine Eq.trans (b := (cond ((it_sShardsOf_0 a0 a1 ([] : List Int) (0 : Int)).1 == 0) (some (e_sShardsOf ((it_sShardsOf_0 a0 a1 ([] : List Int) (0 : Int)).2))) none)) (by kernel_rfl) ?_
  exact (cndT hp (fun _h => rfl))
theorem run_sShardsOf : ∀ d, pre_sShardsOf d = true → runP true Try.prog tt S25 QF25 (fun b => match b with | 0 => say_sShardsOf_0 | _ => fun _ => none) Try.f87 (argsMk P_sShardsOf d) = some (g_sShardsOf d) := fun d hp => runA_sShardsOf d.1 d.2.1 hp
theorem c_sShardsOf : PContract Try.prog 87 (sumOf P_sShardsOf pre_sShardsOf g_sShardsOf) := PContract.of_data true G25 (fn := Try.f87) (by kernel_rfl) (L := fun b => match b with | 0 => say_sShardsOf_0 | _ => fun _ => none) (by rw [show loopsIn 0 (bodyOf Try.f87) = [(0, body_sShardsOf_0)] by kernel_rfl]; intro p hp; simp only [List.mem_singleton] at hp; subst hp; exact lw_sShardsOf_0) P_sShardsOf pre_sShardsOf g_sShardsOf run_sShardsOf
noncomputable def S26 : Tab := Tab.add S25 87 (lift (sumOf P_sShardsOf pre_sShardsOf g_sShardsOf))
noncomputable def QF26 : FuncId → Bool := qadd QF25 87
theorem G26 : Good Try.prog tt S26 QF26 := G25.addQ c_sShardsOf ⟨Try.f87, by kernel_rfl, by kernel_rfl, by kernel_rfl⟩ (fun _ => rfl)

/-! 44 loop.example/g00244/spec.l11Job -/
noncomputable abbrev P_sl11Job : List PSh := [.agg [(.int .i64), (.int .i64), (.int .i64), (.sl (.pair (.int .i64) (.pair (.sl (.pair (.int .i64) (.pair .str .str))) (.pair (.int .i64) (.sl (.int .i64)))))), (.sl (.pair (.int .i64) .bool)), (.int .i64)], .t (.int .i64)]
noncomputable abbrev S_sl11Job_0 : SS := ⟨[.junk, .junk, .ptr 0 0 1 0, .junk, .junk, .ptr 1 0 1 0, .t true (.sl (.int .i64)), .t true (.int .i64), .junk, .junk, .junk, .junk, .junk, .junk, .junk, .junk, .junk, .junk, .junk, .junk, .junk, .junk, .junk, .junk, .junk, .junk, .junk, .junk, .junk, .junk, .junk, .junk, .junk, .junk, .junk, .junk, .junk, .junk, .junk, .junk, .junk, .junk, .junk, .junk, .junk, .junk, .junk, .junk, .junk, .junk, .junk, .junk, .junk, .junk, .junk, .junk, .junk, .junk, .junk, .junk, .junk, .junk, .junk, .junk, .junk, .junk, .junk, .junk, .junk, .junk, .junk, .junk, .junk, .junk, .junk, .junk, .junk, .junk, .junk, .junk, .junk, .junk, .junk, .junk, .junk, .junk, .junk, .junk, .junk, .junk, .junk, .junk, .junk, .junk, .junk, .junk, .junk, .junk, .junk, .junk, .junk, .junk, .junk, .junk, .junk, .junk, .junk, .junk, .junk, .junk, .junk, .junk, .junk, .junk, .junk, .junk, .junk, .junk, .junk, .junk, .junk, .junk, .junk, .junk, .junk, .junk, .junk, .junk], [.box [.t true (.int .i64), .t true (.int .i64), .t true (.int .i64), .t false (.sl (.pair (.int .i64) (.pair (.sl (.pair (.int .i64) (.pair .str .str))) (.pair (.int .i64) (.sl (.int .i64)))))), .t false (.sl (.pair (.int .i64) .bool)), .t true (.int .i64)], .box [.t true (.int .i64), .t false (.sl (.pair (.int .i64) (.pair .str .str))), .t true (.int .i64), .t false (.sl (.int .i64))]]⟩
noncomputable abbrev E_sl11Job_0_0 : SS := ⟨[.junk, .junk, .junk, .junk, .t true .bool, .junk, .junk, .junk, .junk, .junk, .junk, .junk, .junk, .junk, .junk, .junk, .junk, .junk, .junk, .junk, .junk, .junk, .junk, .junk, .junk, .junk, .junk, .junk, .junk, .junk, .junk, .junk, .junk, .junk, .junk, .junk, .junk, .junk, .junk, .junk, .junk, .junk, .junk, .junk, .junk, .junk, .junk, .junk, .junk, .junk, .junk, .junk, .junk, .junk, .junk, .junk, .junk, .junk, .junk, .junk, .junk, .junk, .junk, .junk, .junk, .junk, .junk, .junk, .junk, .junk, .junk, .junk, .junk, .junk, .junk, .junk, .junk, .junk, .junk, .junk, .junk, .junk, .junk, .junk, .junk, .junk, .junk, .junk, .junk, .junk, .junk, .junk, .junk, .junk, .junk, .junk, .junk, .junk, .junk, .junk, .junk, .junk, .junk, .junk, .junk, .junk, .junk, .junk, .junk, .junk, .junk, .junk, .junk, .junk, .junk, .junk, .junk, .junk, .junk, .junk, .junk, .junk, .junk, .junk, .junk, .junk, .junk, .junk], []⟩
noncomputable abbrev E_sl11Job_0_1 : SS := ⟨[.junk, .junk, .ptr 0 0 1 0, .junk, .junk, .ptr 1 0 1 0, .junk, .junk, .junk, .junk, .junk, .junk, .junk, .junk, .junk, .junk, .junk, .junk, .junk, .junk, .junk, .junk, .junk, .junk, .junk, .junk, .junk, .junk, .junk, .junk, .junk, .junk, .junk, .junk, .junk, .junk, .junk, .junk, .junk, .junk, .junk, .junk, .junk, .junk, .junk, .junk, .junk, .junk, .junk, .junk, .junk, .junk, .junk, .junk, .junk, .junk, .junk, .junk, .junk, .junk, .junk, .junk, .junk, .junk, .junk, .junk, .junk, .junk, .junk, .junk, .junk, .junk, .junk, .junk, .junk, .junk, .junk, .junk, .junk, .junk, .junk, .junk, .junk, .junk, .junk, .junk, .junk, .junk, .junk, .junk, .junk, .junk, .junk, .junk, .junk, .junk, .junk, .junk, .junk, .junk, .junk, .junk, .junk, .junk, .junk, .junk, .junk, .junk, .junk, .junk, .junk, .junk, .junk, .junk, .junk, .junk, .junk, .junk, .junk, .junk, .junk, .junk, .junk, .junk, .junk, .junk, .junk, .junk], [.box [.t true (.int .i64), .t true (.int .i64), .t true (.int .i64), .t false (.sl (.pair (.int .i64) (.pair (.sl (.pair (.int .i64) (.pair .str .str))) (.pair (.int .i64) (.sl (.int .i64)))))), .t false (.sl (.pair (.int .i64) .bool)), .t true (.int .i64)], .box [.t true (.int .i64), .t false (.sl (.pair (.int .i64) (.pair .str .str))), .t true (.int .i64), .t false (.sl (.int .i64))]]⟩
noncomputable def st_sl11Job_0 (x6 : List Int) (x7 : Int) (h0_0 : Int) (h0_1 : Int) (h0_2 : Int) (h0_3 : List (Int × (List (Int × ByteArray × ByteArray)) × Int × List Int)) (h0_4 : List (Int × Bool)) (h0_5 : Int) (h1_0 : Int) (h1_1 : List (Int × ByteArray × ByteArray)) (h1_2 : Int) (h1_3 : List Int) : RT S_sl11Job_0.den := (.br (decide (x7 < ((h1_3.length : Nat) : Int))) (.br (decide (0 ≤ x7 ∧ x7 < ((h1_3.length : Nat) : Int))) (.br (q_sl7Has x6 (h1_3.getD x7.toNat (0 : Int))) (.br (!(sl7Has x6 (h1_3.getD x7.toNat (0 : Int)))) (.done .ret E_sl11Job_0_0 (((), (), (), (), false, (), (), (), (), (), (), (), (), (), (), (), (), (), (), (), (), (), (), (), (), (), (), (), (), (), (), (), (), (), (), (), (), (), (), (), (), (), (), (), (), (), (), (), (), (), (), (), (), (), (), (), (), (), (), (), (), (), (), (), (), (), (), (), (), (), (), (), (), (), (), (), (), (), (), (), (), (), (), (), (), (), (), (), (), (), (), (), (), (), (), (), (), (), (), (), (), (), (), (), (), (), (), (), (), (), (), (), (), (), (), (), (), (), (), (), (), (), (), (), (), (), (), (), ()), ())) (.br (decide (x7 > (0 : Int))) (.br (decide (0 ≤ (IntKind.wrap .i64 (x7 - (1 : Int))) ∧ (IntKind.wrap .i64 (x7 - (1 : Int))) < ((h1_3.length : Nat) : Int))) (.br (decide (0 ≤ x7 ∧ x7 < ((h1_3.length : Nat) : Int))) (.br (decide ((h1_3.getD ((IntKind.wrap .i64 (x7 - (1 : Int))).toNat) (0 : Int)) ≥ (h1_3.getD x7.toNat (0 : Int)))) (.done .ret E_sl11Job_0_0 (((), (), (), (), false, (), (), (), (), (), (), (), (), (), (), (), (), (), (), (), (), (), (), (), (), (), (), (), (), (), (), (), (), (), (), (), (), (), (), (), (), (), (), (), (), (), (), (), (), (), (), (), (), (), (), (), (), (), (), (), (), (), (), (), (), (), (), (), (), (), (), (), (), (), (), (), (), (), (), (), (), (), (), (), (), (), (), (), (), (), (), (), (), (), (), (), (), (), (), (), (), (), (), (), (), (), (), (), (), (), (), (), (), (), (), (), (), (), (), (), (), (), (), (), (), (), (), (), ()), ())) (.next (((), (), (), (), (), (), x6, IntKind.wrap .i64 (x7 + (1 : Int)), (), (), (), (), (), (), (), (), (), (), (), (), (), (), (), (), (), (), (), (), (), (), (), (), (), (), (), (), (), (), (), (), (), (), (), (), (), (), (), (), (), (), (), (), (), (), (), (), (), (), (), (), (), (), (), (), (), (), (), (), (), (), (), (), (), (), (), (), (), (), (), (), (), (), (), (), (), (), (), (), (), (), (), (), (), (), (), (), (), (), (), (), (), (), (), (), (), (), (), (), (), (), (), (), (), (), (), (), (), (), (), (), (), (), (), (), (), (), (), (), ()), ((h0_0, h0_1, h0_2, h0_3, h0_4, h0_5, ()), (h1_0, h1_1, h1_2, h1_3, ()), ())))) .fail) .fail) (.next (((), (), (), (), (), (), x6, IntKind.wrap .i64 (x7 + (1 : Int)), (), (), (), (), (), (), (), (), (), (), (), (), (), (), (), (), (), (), (), (), (), (), (), (), (), (), (), (), (), (), (), (), (), (), (), (), (), (), (), (), (), (), (), (), (), (), (), (), (), (), (), (), (), (), (), (), (), (), (), (), (), (), (), (), (), (), (), (), (), (), (), (), (), (), (), (), (), (), (), (), (), (), (), (), (), (), (), (), (), (), (), (), (), (), (), (), (), (), (), (), (), (), (), (), (), (), (), (), (), (), (), (), (), (), (), (), (), (), (), (), ()), ((h0_0, h0_1, h0_2, h0_3, h0_4, h0_5, ()), (h1_0, h1_1, h1_2, h1_3, ()), ()))))) .fail) .fail) (.done (.exit 0) E_sl11Job_0_1 (((), (), (), (), (), (), (), (), (), (), (), (), (), (), (), (), (), (), (), (), (), (), (), (), (), (), (), (), (), (), (), (), (), (), (), (), (), (), (), (), (), (), (), (), (), (), (), (), (), (), (), (), (), (), (), (), (), (), (), (), (), (), (), (), (), (), (), (), (), (), (), (), (), (), (), (), (), (), (), (), (), (), (), (), (), (), (), (), (), (), (), (), (), (), (), (), (), (), (), (), (), (), (), (), (), (), (), (), (), (), (), (), (), (), (), (), (), (), (), (), (), (), (), (), (), (), (), (), ()), ((h0_0, h0_1, h0_2, h0_3, h0_4, h0_5, ()), (h1_0, h1_1, h1_2, h1_3, ()), ()))))
noncomputable abbrev V_sl11Job_0 := (List Int) × (Int)
noncomputable abbrev A_sl11Job_0 := Nat × (Bool)
noncomputable def fl_sl11Job_0 : A_sl11Job_0 := (99, (false : Bool))
noncomputable def ss_sl11Job_0 (x6 : List Int) (x7 : Int) (h0_0 : Int) (h0_1 : Int) (h0_2 : Int) (h0_3 : List (Int × (List (Int × ByteArray × ByteArray)) × Int × List Int)) (h0_4 : List (Int × Bool)) (h0_5 : Int) (h1_0 : Int) (h1_1 : List (Int × ByteArray × ByteArray)) (h1_2 : Int) (h1_3 : List Int) : V_sl11Job_0 ⊕ A_sl11Job_0 := (cond (decide (x7 < ((h1_3.length : Nat) : Int))) (cond (decide (0 ≤ x7 ∧ x7 < ((h1_3.length : Nat) : Int))) (cond (q_sl7Has x6 (h1_3.getD x7.toNat (0 : Int))) (cond (!(sl7Has x6 (h1_3.getD x7.toNat (0 : Int)))) (.inr (0, false)) (cond (decide (x7 > (0 : Int))) (cond (decide (0 ≤ (IntKind.wrap .i64 (x7 - (1 : Int))) ∧ (IntKind.wrap .i64 (x7 - (1 : Int))) < ((h1_3.length : Nat) : Int))) (cond (decide (0 ≤ x7 ∧ x7 < ((h1_3.length : Nat) : Int))) (cond (decide ((h1_3.getD ((IntKind.wrap .i64 (x7 - (1 : Int))).toNat) (0 : Int)) ≥ (h1_3.getD x7.toNat (0 : Int)))) (.inr (0, false)) (.inl (x6, IntKind.wrap .i64 (x7 + (1 : Int))))) (.inr fl_sl11Job_0)) (.inr fl_sl11Job_0)) (.inl (x6, IntKind.wrap .i64 (x7 + (1 : Int)))))) (.inr fl_sl11Job_0)) (.inr fl_sl11Job_0)) (.inr (1, (false : Bool))))
noncomputable def it_sl11Job_0 (x6 : List Int) (x7 : Int) (h0_0 : Int) (h0_1 : Int) (h0_2 : Int) (h0_3 : List (Int × (List (Int × ByteArray × ByteArray)) × Int × List Int)) (h0_4 : List (Int × Bool)) (h0_5 : Int) (h1_0 : Int) (h1_1 : List (Int × ByteArray × ByteArray)) (h1_2 : Int) (h1_3 : List Int) : A_sl11Job_0 := itX (fun v : V_sl11Job_0 => ss_sl11Job_0 v.1 v.2 h0_0 h0_1 h0_2 h0_3 h0_4 h0_5 h1_0 h1_1 h1_2 h1_3) fl_sl11Job_0 (x6, x7)
noncomputable def ct_sl11Job_0 (h0_0 : Int) (h0_1 : Int) (h0_2 : Int) (h0_3 : List (Int × (List (Int × ByteArray × ByteArray)) × Int × List Int)) (h0_4 : List (Int × Bool)) (h0_5 : Int) (h1_0 : Int) (h1_1 : List (Int × ByteArray × ByteArray)) (h1_2 : Int) (h1_3 : List Int) (a : A_sl11Job_0) : CT := (.br (a.1 == 0) (.done .ret E_sl11Job_0_0 (((), (), (), (), a.2, (), (), (), (), (), (), (), (), (), (), (), (), (), (), (), (), (), (), (), (), (), (), (), (), (), (), (), (), (), (), (), (), (), (), (), (), (), (), (), (), (), (), (), (), (), (), (), (), (), (), (), (), (), (), (), (), (), (), (), (), (), (), (), (), (), (), (), (), (), (), (), (), (), (), (), (), (), (), (), (), (), (), (), (), (), (), (), (), (), (), (), (), (), (), (), (), (), (), (), (), (), (), (), (), (), (), (), (), (), (), (), (), (), (), (), (), (), (), (), (), (), (), (), ()), ())) (.br (a.1 == 1) (.done (.exit 0) E_sl11Job_0_1 (((), (), (), (), (), (), (), (), (), (), (), (), (), (), (), (), (), (), (), (), (), (), (), (), (), (), (), (), (), (), (), (), (), (), (), (), (), (), (), (), (), (), (), (), (), (), (), (), (), (), (), (), (), (), (), (), (), (), (), (), (), (), (), (), (), (), (), (), (), (), (), (), (), (), (), (), (), (), (), (), (), (), (), (), (), (), (), (), (), (), (), (), (), (), (), (), (), (), (), (), (), (), (), (), (), (), (), (), (), (), (), (), (), (), (), (), (), (), (), (), (), (), (), (), (), (), (), (), ()), ((h0_0, h0_1, h0_2, h0_3, h0_4, h0_5, ()), (h1_0, h1_1, h1_2, h1_3, ()), ()))) .fail))
noncomputable def T_sl11Job_0 (x6 : List Int) (x7 : Int) (h0_0 : Int) (h0_1 : Int) (h0_2 : Int) (h0_3 : List (Int × (List (Int × ByteArray × ByteArray)) × Int × List Int)) (h0_4 : List (Int × Bool)) (h0_5 : Int) (h1_0 : Int) (h1_1 : List (Int × ByteArray × ByteArray)) (h1_2 : Int) (h1_3 : List Int) : CT := (ct_sl11Job_0 h0_0 h0_1 h0_2 h0_3 h0_4 h0_5 h1_0 h1_1 h1_2 h1_3) (it_sl11Job_0 x6 x7 h0_0 h0_1 h0_2 h0_3 h0_4 h0_5 h1_0 h1_1 h1_2 h1_3)
noncomputable abbrev sp_sl11Job_0 : S_sl11Job_0.den → RT S_sl11Job_0.den := fun d => st_sl11Job_0 d.1.2.2.2.2.2.2.1 d.1.2.2.2.2.2.2.2.1 d.2.1.1 d.2.1.2.1 d.2.1.2.2.1 d.2.1.2.2.2.1 d.2.1.2.2.2.2.1 d.2.1.2.2.2.2.2.1 d.2.2.1.1 d.2.2.1.2.1 d.2.2.1.2.2.1 d.2.2.1.2.2.2.1
noncomputable abbrev pk_sl11Job_0 (x6 : List Int) (x7 : Int) (h0_0 : Int) (h0_1 : Int) (h0_2 : Int) (h0_3 : List (Int × (List (Int × ByteArray × ByteArray)) × Int × List Int)) (h0_4 : List (Int × Bool)) (h0_5 : Int) (h1_0 : Int) (h1_1 : List (Int × ByteArray × ByteArray)) (h1_2 : Int) (h1_3 : List Int) : S_sl11Job_0.den := (((), (), (), (), (), (), x6, x7, (), (), (), (), (), (), (), (), (), (), (), (), (), (), (), (), (), (), (), (), (), (), (), (), (), (), (), (), (), (), (), (), (), (), (), (), (), (), (), (), (), (), (), (), (), (), (), (), (), (), (), (), (), (), (), (), (), (), (), (), (), (), (), (), (), (), (), (), (), (), (), (), (), (), (), (), (), (), (), (), (), (), (), (), (), (), (), (), (), (), (), (), (), (), (), (), (), (), (), (), (), (), (), (), (), (), (), (), (), (), (), (), (), (), (), (), (), (), (), (), ()), ((h0_0, h0_1, h0_2, h0_3, h0_4, h0_5, ()), (h1_0, h1_1, h1_2, h1_3, ()), ()))
noncomputable def body_sl11Job_0 : Code := ((loopsIn 0 (bodyOf Try.f44)).getD 0 (0, .skip)).2
theorem R_sl11Job_0 (x6 : List Int) (x7 : Int) (h0_0 : Int) (h0_1 : Int) (h0_2 : Int) (h0_3 : List (Int × (List (Int × ByteArray × ByteArray)) × Int × List Int)) (h0_4 : List (Int × Bool)) (h0_5 : Int) (h1_0 : Int) (h1_1 : List (Int × ByteArray × ByteArray)) (h1_2 : Int) (h1_3 : List Int) : (T_sl11Job_0 x6 x7 h0_0 h0_1 h0_2 h0_3 h0_4 h0_5 h1_0 h1_1 h1_2 h1_3).val (D := S_sl11Job_0.den) = .fail ∨ Runs sp_sl11Job_0 (pk_sl11Job_0 x6 x7 h0_0 h0_1 h0_2 h0_3 h0_4 h0_5 h1_0 h1_1 h1_2 h1_3) (T_sl11Job_0 x6 x7 h0_0 h0_1 h0_2 h0_3 h0_4 h0_5 h1_0 h1_1 h1_2 h1_3).val := Runs.ofIt (step := sp_sl11Job_0) (fun v : V_sl11Job_0 => pk_sl11Job_0 v.1 v.2 h0_0 h0_1 h0_2 h0_3 h0_4 h0_5 h1_0 h1_1 h1_2 h1_3) (ct := (ct_sl11Job_0 h0_0 h0_1 h0_2 h0_3 h0_4 h0_5 h1_0 h1_1 h1_2 h1_3)) rfl (fun v => ((relB (relB (relB (relB rfl (relB (relB (relB (relB rfl rfl) rfl) rfl) rfl)) rfl) rfl) rfl) : (st_sl11Job_0 v.1 v.2 h0_0 h0_1 h0_2 h0_3 h0_4 h0_5 h1_0 h1_1 h1_2 h1_3).val = relS (fun v : V_sl11Job_0 => pk_sl11Job_0 v.1 v.2 h0_0 h0_1 h0_2 h0_3 h0_4 h0_5 h1_0 h1_1 h1_2 h1_3) (ct_sl11Job_0 h0_0 h0_1 h0_2 h0_3 h0_4 h0_5 h1_0 h1_1 h1_2 h1_3) (ss_sl11Job_0 v.1 v.2 h0_0 h0_1 h0_2 h0_3 h0_4 h0_5 h1_0 h1_1 h1_2 h1_3))) (fun a => ((cendB (cendD (by simp)) (cendB (cendD (by simp)) cendF)) : CEnd _ ((ct_sl11Job_0 h0_0 h0_1 h0_2 h0_3 h0_4 h0_5 h1_0 h1_1 h1_2 h1_3) a))) (x6, x7)
theorem rd_sl11Job_0 : ∀ d, execC Try.prog tt S26 QF26 (fun _ _ => none) 0 body_sl11Job_0 (S_sl11Job_0.st d 0 []) (fun e s' => some (e, S_sl11Job_0.cutE (kepts [4] [(0, [2, 5])]) e s')) = (sp_sl11Job_0 d).opt 0 [] := by
  intro d
  kernel_rfl
noncomputable abbrev say_sl11Job_0 : St → Option Tree := S_sl11Job_0.say 0 [] [] (fun d => T_sl11Job_0 d.1.2.2.2.2.2.2.1 d.1.2.2.2.2.2.2.2.1 d.2.1.1 d.2.1.2.1 d.2.1.2.2.1 d.2.1.2.2.2.1 d.2.1.2.2.2.2.1 d.2.1.2.2.2.2.2.1 d.2.2.1.1 d.2.2.1.2.1 d.2.2.1.2.2.1 d.2.2.1.2.2.2.1)
theorem lw_sl11Job_0 : LoopWp Try.prog say_sl11Job_0 body_sl11Job_0 := SS.wp G26 (fun _ _ => none) (by rw [show loopsIn 0 body_sl11Job_0 = [] by kernel_rfl]; simp) S_sl11Job_0 0 [] (kepts [4] [(0, [2, 5])]) [] sp_sl11Job_0 rd_sl11Job_0 _ (fun d => R_sl11Job_0 d.1.2.2.2.2.2.2.1 d.1.2.2.2.2.2.2.2.1 d.2.1.1 d.2.1.2.1 d.2.1.2.2.1 d.2.1.2.2.2.1 d.2.1.2.2.2.2.1 d.2.1.2.2.2.2.2.1 d.2.2.1.1 d.2.2.1.2.1 d.2.2.1.2.2.1 d.2.2.1.2.2.2.1)
noncomputable def k1_sl11Job (a1 : Int) (a2 : Int) (a3 : List (Int × (List (Int × ByteArray × ByteArray)) × Int × List Int)) (a6 : Int) := sl1In ((a3.getD a6.toNat ((0 : Int), ([], ((0 : Int), [])))).1) (IntKind.wrap .i64 (a1 * (1000 : Int))) (IntKind.wrap .i64 ((IntKind.wrap .i64 ((IntKind.wrap .i64 (a1 * (1000 : Int))) + a2)) - (1 : Int)))
noncomputable def k2_sl11Job (a3 : List (Int × (List (Int × ByteArray × ByteArray)) × Int × List Int)) (a6 : Int) := sl1In ((((a3.getD a6.toNat ((0 : Int), ([], ((0 : Int), [])))).2).2).1) (1 : Int) (3 : Int)
noncomputable def k3_sl11Job (a0 : Int) (a1 : Int) (a2 : Int) (a3 : List (Int × (List (Int × ByteArray × ByteArray)) × Int × List Int)) (a4 : List (Int × Bool)) (a5 : Int) (a6 : Int) := it_sl11Job_0 (sShardsOf (((a3.getD a6.toNat ((0 : Int), ([], ((0 : Int), [])))).2).1) a0) (0 : Int) a0 a1 a2 a3 a4 a5 ((a3.getD a6.toNat ((0 : Int), ([], ((0 : Int), [])))).1) (((a3.getD a6.toNat ((0 : Int), ([], ((0 : Int), [])))).2).1) ((((a3.getD a6.toNat ((0 : Int), ([], ((0 : Int), [])))).2).2).1) ((((a3.getD a6.toNat ((0 : Int), ([], ((0 : Int), [])))).2).2).2)
noncomputable def sl11Job (a0 : Int) (a1 : Int) (a2 : Int) (a3 : List (Int × (List (Int × ByteArray × ByteArray)) × Int × List Int)) (a4 : List (Int × Bool)) (a5 : Int) (a6 : Int) : Bool := (cond (!(k1_sl11Job a1 a2 a3 a6)) false (cond (decide (a6 > (0 : Int))) (cond (decide (((a3.getD ((IntKind.wrap .i64 (a6 - (1 : Int))).toNat) ((0 : Int), ([], ((0 : Int), [])))).1) ≥ ((a3.getD a6.toNat ((0 : Int), ([], ((0 : Int), [])))).1))) false (cond (!(sOpsOk (((a3.getD a6.toNat ((0 : Int), ([], ((0 : Int), [])))).2).1))) false (cond (!(k2_sl11Job a3 a6)) false (cond ((k3_sl11Job a0 a1 a2 a3 a4 a5 a6).1 == 0) ((k3_sl11Job a0 a1 a2 a3 a4 a5 a6).2) (cond (decide ((sl11Chosen a0 a1 a2 a3 a4 a5 ((a3.getD a6.toNat ((0 : Int), ([], ((0 : Int), [])))).1)) < (0 : Int))) (((((a3.getD a6.toNat ((0 : Int), ([], ((0 : Int), [])))).2).2).1) == (1 : Int)) (cond (((((a3.getD a6.toNat ((0 : Int), ([], ((0 : Int), [])))).2).2).1) == (2 : Int)) (cond ((a4.getD ((sl11Chosen a0 a1 a2 a3 a4 a5 ((a3.getD a6.toNat ((0 : Int), ([], ((0 : Int), [])))).1)).toNat) ((0 : Int), false)).2) true (cond (((((a3.getD a6.toNat ((0 : Int), ([], ((0 : Int), [])))).2).2).1) == (3 : Int)) (!((a4.getD ((sl11Chosen a0 a1 a2 a3 a4 a5 ((a3.getD a6.toNat ((0 : Int), ([], ((0 : Int), [])))).1)).toNat) ((0 : Int), false)).2)) false)) (cond (((((a3.getD a6.toNat ((0 : Int), ([], ((0 : Int), [])))).2).2).1) == (3 : Int)) (!((a4.getD ((sl11Chosen a0 a1 a2 a3 a4 a5 ((a3.getD a6.toNat ((0 : Int), ([], ((0 : Int), [])))).1)).toNat) ((0 : Int), false)).2)) false))))))) (cond (!(sOpsOk (((a3.getD a6.toNat ((0 : Int), ([], ((0 : Int), [])))).2).1))) false (cond (!(k2_sl11Job a3 a6)) false (cond ((k3_sl11Job a0 a1 a2 a3 a4 a5 a6).1 == 0) ((k3_sl11Job a0 a1 a2 a3 a4 a5 a6).2) (cond (decide ((sl11Chosen a0 a1 a2 a3 a4 a5 ((a3.getD a6.toNat ((0 : Int), ([], ((0 : Int), [])))).1)) < (0 : Int))) (((((a3.getD a6.toNat ((0 : Int), ([], ((0 : Int), [])))).2).2).1) == (1 : Int)) (cond (((((a3.getD a6.toNat ((0 : Int), ([], ((0 : Int), [])))).2).2).1) == (2 : Int)) (cond ((a4.getD ((sl11Chosen a0 a1 a2 a3 a4 a5 ((a3.getD a6.toNat ((0 : Int), ([], ((0 : Int), [])))).1)).toNat) ((0 : Int), false)).2) true (cond (((((a3.getD a6.toNat ((0 : Int), ([], ((0 : Int), [])))).2).2).1) == (3 : Int)) (!((a4.getD ((sl11Chosen a0 a1 a2 a3 a4 a5 ((a3.getD a6.toNat ((0 : Int), ([], ((0 : Int), [])))).1)).toNat) ((0 : Int), false)).2)) false)) (cond (((((a3.getD a6.toNat ((0 : Int), ([], ((0 : Int), [])))).2).2).1) == (3 : Int)) (!((a4.getD ((sl11Chosen a0 a1 a2 a3 a4 a5 ((a3.getD a6.toNat ((0 : Int), ([], ((0 : Int), [])))).1)).toNat) ((0 : Int), false)).2)) false))))))))
noncomputable abbrev e_sl11Job (r : Bool) : AV × List AObj := ((.t true .bool r), [])
noncomputable abbrev g_sl11Job : pshsDen P_sl11Job → AV × List AObj := fun d => e_sl11Job (sl11Job d.1.1 d.1.2.1 d.1.2.2.1 d.1.2.2.2.1 d.1.2.2.2.2.1 d.1.2.2.2.2.2.1 d.2.1)
noncomputable def q_sl11Job (a0 : Int) (a1 : Int) (a2 : Int) (a3 : List (Int × (List (Int × ByteArray × ByteArray)) × Int × List Int)) (a4 : List (Int × Bool)) (a5 : Int) (a6 : Int) : Bool := (decide (0 ≤ a6 ∧ a6 < ((a3.length : Nat) : Int))) && (cond (!(k1_sl11Job a1 a2 a3 a6)) true (cond (decide (a6 > (0 : Int))) ((decide (0 ≤ (IntKind.wrap .i64 (a6 - (1 : Int))) ∧ (IntKind.wrap .i64 (a6 - (1 : Int))) < ((a3.length : Nat) : Int))) && (cond (decide (((a3.getD ((IntKind.wrap .i64 (a6 - (1 : Int))).toNat) ((0 : Int), ([], ((0 : Int), [])))).1) ≥ ((a3.getD a6.toNat ((0 : Int), ([], ((0 : Int), [])))).1))) true ((q_sOpsOk (((a3.getD a6.toNat ((0 : Int), ([], ((0 : Int), [])))).2).1)) && (cond (!(sOpsOk (((a3.getD a6.toNat ((0 : Int), ([], ((0 : Int), [])))).2).1))) true (cond (!(k2_sl11Job a3 a6)) true ((q_sShardsOf (((a3.getD a6.toNat ((0 : Int), ([], ((0 : Int), [])))).2).1) a0) && (cond ((k3_sl11Job a0 a1 a2 a3 a4 a5 a6).1 == 0) true (((k3_sl11Job a0 a1 a2 a3 a4 a5 a6).1 == 1) && ((q_sl11Chosen a0 a1 a2 a3 a4 a5 ((a3.getD a6.toNat ((0 : Int), ([], ((0 : Int), [])))).1)) && (cond (decide ((sl11Chosen a0 a1 a2 a3 a4 a5 ((a3.getD a6.toNat ((0 : Int), ([], ((0 : Int), [])))).1)) < (0 : Int))) true (cond (((((a3.getD a6.toNat ((0 : Int), ([], ((0 : Int), [])))).2).2).1) == (2 : Int)) ((decide (0 ≤ (sl11Chosen a0 a1 a2 a3 a4 a5 ((a3.getD a6.toNat ((0 : Int), ([], ((0 : Int), [])))).1)) ∧ (sl11Chosen a0 a1 a2 a3 a4 a5 ((a3.getD a6.toNat ((0 : Int), ([], ((0 : Int), [])))).1)) < ((a4.length : Nat) : Int))) && (cond ((a4.getD ((sl11Chosen a0 a1 a2 a3 a4 a5 ((a3.getD a6.toNat ((0 : Int), ([], ((0 : Int), [])))).1)).toNat) ((0 : Int), false)).2) true (cond (((((a3.getD a6.toNat ((0 : Int), ([], ((0 : Int), [])))).2).2).1) == (3 : Int)) (decide (0 ≤ (sl11Chosen a0 a1 a2 a3 a4 a5 ((a3.getD a6.toNat ((0 : Int), ([], ((0 : Int), [])))).1)) ∧ (sl11Chosen a0 a1 a2 a3 a4 a5 ((a3.getD a6.toNat ((0 : Int), ([], ((0 : Int), [])))).1)) < ((a4.length : Nat) : Int))) true))) (cond (((((a3.getD a6.toNat ((0 : Int), ([], ((0 : Int), [])))).2).2).1) == (3 : Int)) (decide (0 ≤ (sl11Chosen a0 a1 a2 a3 a4 a5 ((a3.getD a6.toNat ((0 : Int), ([], ((0 : Int), [])))).1)) ∧ (sl11Chosen a0 a1 a2 a3 a4 a5 ((a3.getD a6.toNat ((0 : Int), ([], ((0 : Int), [])))).1)) < ((a4.length : Nat) : Int))) true)))))))))))) ((q_sOpsOk (((a3.getD a6.toNat ((0 : Int), ([], ((0 : Int), [])))).2).1)) && (cond (!(sOpsOk (((a3.getD a6.toNat ((0 : Int), ([], ((0 : Int), [])))).2).1))) true (cond (!(k2_sl11Job a3 a6)) true ((q_sShardsOf (((a3.getD a6.toNat ((0 : Int), ([], ((0 : Int), [])))).2).1) a0) && (cond ((k3_sl11Job a0 a1 a2 a3 a4 a5 a6).1 == 0) true (((k3_sl11Job a0 a1 a2 a3 a4 a5 a6).1 == 1) && ((q_sl11Chosen a0 a1 a2 a3 a4 a5 ((a3.getD a6.toNat ((0 : Int), ([], ((0 : Int), [])))).1)) && (cond (decide ((sl11Chosen a0 a1 a2 a3 a4 a5 ((a3.getD a6.toNat ((0 : Int), ([], ((0 : Int), [])))).1)) < (0 : Int))) true (cond (((((a3.getD a6.toNat ((0 : Int), ([], ((0 : Int), [])))).2).2).1) == (2 : Int)) ((decide (0 ≤ (sl11Chosen a0 a1 a2 a3 a4 a5 ((a3.getD a6.toNat ((0 : Int), ([], ((0 : Int), [])))).1)) ∧ (sl11Chosen a0 a1 a2 a3 a4 a5 ((a3.getD a6.toNat ((0 : Int), ([], ((0 : Int), [])))).1)) < ((a4.length : Nat) : Int))) && (cond ((a4.getD ((sl11Chosen a0 a1 a2 a3 a4 a5 ((a3.getD a6.toNat ((0 : Int), ([], ((0 : Int), [])))).1)).toNat) ((0 : Int), false)).2) true (cond (((((a3.getD a6.toNat ((0 : Int), ([], ((0 : Int), [])))).2).2).1) == (3 : Int)) (decide (0 ≤ (sl11Chosen a0 a1 a2 a3 a4 a5 ((a3.getD a6.toNat ((0 : Int), ([], ((0 : Int), [])))).1)) ∧ (sl11Chosen a0 a1 a2 a3 a4 a5 ((a3.getD a6.toNat ((0 : Int), ([], ((0 : Int), [])))).1)) < ((a4.length : Nat) : Int))) true))) (cond (((((a3.getD a6.toNat ((0 : Int), ([], ((0 : Int), [])))).2).2).1) == (3 : Int)) (decide (0 ≤ (sl11Chosen a0 a1 a2 a3 a4 a5 ((a3.getD a6.toNat ((0 : Int), ([], ((0 : Int), [])))).1)) ∧ (sl11Chosen a0 a1 a2 a3 a4 a5 ((a3.getD a6.toNat ((0 : Int), ([], ((0 : Int), [])))).1)) < ((a4.length : Nat) : Int))) true))))))))))))
noncomputable abbrev pre_sl11Job : pshsDen P_sl11Job → Bool := fun d => q_sl11Job d.1.1 d.1.2.1 d.1.2.2.1 d.1.2.2.2.1 d.1.2.2.2.2.1 d.1.2.2.2.2.2.1 d.2.1
theorem runA_sl11Job (a0 : Int) (a1 : Int) (a2 : Int) (a3 : List (Int × (List (Int × ByteArray × ByteArray)) × Int × List Int)) (a4 : List (Int × Bool)) (a5 : Int) (a6 : Int) (hp : ((decide (0 ≤ a6 ∧ a6 < ((a3.length : Nat) : Int))) && (cond (!(k1_sl11Job a1 a2 a3 a6)) true (cond (decide (a6 > (0 : Int))) ((decide (0 ≤ (IntKind.wrap .i64 (a6 - (1 : Int))) ∧ (IntKind.wrap .i64 (a6 - (1 : Int))) < ((a3.length : Nat) : Int))) && (cond (decide (((a3.getD ((IntKind.wrap .i64 (a6 - (1 : Int))).toNat) ((0 : Int), ([], ((0 : Int), [])))).1) ≥ ((a3.getD a6.toNat ((0 : Int), ([], ((0 : Int), [])))).1))) true ((q_sOpsOk (((a3.getD a6.toNat ((0 : Int), ([], ((0 : Int), [])))).2).1)) && (cond (!(sOpsOk (((a3.getD a6.toNat ((0 : Int), ([], ((0 : Int), [])))).2).1))) true (cond (!(k2_sl11Job a3 a6)) true ((q_sShardsOf (((a3.getD a6.toNat ((0 : Int), ([], ((0 : Int), [])))).2).1) a0) && (cond ((k3_sl11Job a0 a1 a2 a3 a4 a5 a6).1 == 0) true (((k3_sl11Job a0 a1 a2 a3 a4 a5 a6).1 == 1) && ((q_sl11Chosen a0 a1 a2 a3 a4 a5 ((a3.getD a6.toNat ((0 : Int), ([], ((0 : Int), [])))).1)) && (cond (decide ((sl11Chosen a0 a1 a2 a3 a4 a5 ((a3.getD a6.toNat ((0 : Int), ([], ((0 : Int), [])))).1)) < (0 : Int))) true (cond (((((a3.getD a6.toNat ((0 : Int), ([], ((0 : Int), [])))).2).2).1) == (2 : Int)) ((decide (0 ≤ (sl11Chosen a0 a1 a2 a3 a4 a5 ((a3.getD a6.toNat ((0 : Int), ([], ((0 : Int), [])))).1)) ∧ (sl11Chosen a0 a1 a2 a3 a4 a5 ((a3.getD a6.toNat ((0 : Int), ([], ((0 : Int), [])))).1)) < ((a4.length : Nat) : Int))) && (cond ((a4.getD ((sl11Chosen a0 a1 a2 a3 a4 a5 ((a3.getD a6.toNat ((0 : Int), ([], ((0 : Int), [])))).1)).toNat) ((0 : Int), false)).2) true (cond (((((a3.getD a6.toNat ((0 : Int), ([], ((0 : Int), [])))).2).2).1) == (3 : Int)) (decide (0 ≤ (sl11Chosen a0 a1 a2 a3 a4 a5 ((a3.getD a6.toNat ((0 : Int), ([], ((0 : Int), [])))).1)) ∧ (sl11Chosen a0 a1 a2 a3 a4 a5 ((a3.getD a6.toNat ((0 : Int), ([], ((0 : Int), [])))).1)) < ((a4.length : Nat) : Int))) true))) (cond (((((a3.getD a6.toNat ((0 : Int), ([], ((0 : Int), [])))).2).2).1) == (3 : Int)) (decide (0 ≤ (sl11Chosen a0 a1 a2 a3 a4 a5 ((a3.getD a6.toNat ((0 : Int), ([], ((0 : Int), [])))).1)) ∧ (sl11Chosen a0 a1 a2 a3 a4 a5 ((a3.getD a6.toNat ((0 : Int), ([], ((0 : Int), [])))).1)) < ((a4.length : Nat) : Int))) true)))))))))))) ((q_sOpsOk (((a3.getD a6.toNat ((0 : Int), ([], ((0 : Int), [])))).2).1)) && (cond (!(sOpsOk (((a3.getD a6.toNat ((0 : Int), ([], ((0 : Int), [])))).2).1))) true (cond (!(k2_sl11Job a3 a6)) true ((q_sShardsOf (((a3.getD a6.toNat ((0 : Int), ([], ((0 : Int), [])))).2).1) a0) && (cond ((k3_sl11Job a0 a1 a2 a3 a4 a5 a6).1 == 0) true (((k3_sl11Job a0 a1 a2 a3 a4 a5 a6).1 == 1) && ((q_sl11Chosen a0 a1 a2 a3 a4 a5 ((a3.getD a6.toNat ((0 : Int), ([], ((0 : Int), [])))).1)) && (cond (decide ((sl11Chosen a0 a1 a2 a3 a4 a5 ((a3.getD a6.toNat ((0 : Int), ([], ((0 : Int), [])))).1)) < (0 : Int))) true (cond (((((a3.getD a6.toNat ((0 : Int), ([], ((0 : Int), [])))).2).2).1) == (2 : Int)) ((decide (0 ≤ (sl11Chosen a0 a1 a2 a3 a4 a5 ((a3.getD a6.toNat ((0 : Int), ([], ((0 : Int), [])))).1)) ∧ (sl11Chosen a0 a1 a2 a3 a4 a5 ((a3.getD a6.toNat ((0 : Int), ([], ((0 : Int), [])))).1)) < ((a4.length : Nat) : Int))) && (cond ((a4.getD ((sl11Chosen a0 a1 a2 a3 a4 a5 ((a3.getD a6.toNat ((0 : Int), ([], ((0 : Int), [])))).1)).toNat) ((0 : Int), false)).2) true (cond (((((a3.getD a6.toNat ((0 : Int), ([], ((0 : Int), [])))).2).2).1) == (3 : Int)) (decide (0 ≤ (sl11Chosen a0 a1 a2 a3 a4 a5 ((a3.getD a6.toNat ((0 : Int), ([], ((0 : Int), [])))).1)) ∧ (sl11Chosen a0 a1 a2 a3 a4 a5 ((a3.getD a6.toNat ((0 : Int), ([], ((0 : Int), [])))).1)) < ((a4.length : Nat) : Int))) true))) (cond (((((a3.getD a6.toNat ((0 : Int), ([], ((0 : Int), [])))).2).2).1) == (3 : Int)) (decide (0 ≤ (sl11Chosen a0 a1 a2 a3 a4 a5 ((a3.getD a6.toNat ((0 : Int), ([], ((0 : Int), [])))).1)) ∧ (sl11Chosen a0 a1 a2 a3 a4 a5 ((a3.getD a6.toNat ((0 : Int), ([], ((0 : Int), [])))).1)) < ((a4.length : Nat) : Int))) true))))))))))))) = true) : runP true Try.prog tt S26 QF26 (fun b => match b with | 0 => say_sl11Job_0 | _ => fun _ => none) Try.f44 (argsMk P_sl11Job ((a0, (a1, (a2, (a3, (a4, (a5, ())))))), (a6, ()))) = some (g_sl11Job ((a0, (a1, (a2, (a3, (a4, (a5, ())))))), (a6, ()))) := by
  refine Eq.trans (b := (cond (decide (0 ≤ a6 ∧ a6 < ((a3.length : Nat) : Int))) (cond (!(k1_sl11Job a1 a2 a3 a6)) (some (e_sl11Job false)) (cond (decide (a6 > (0 : Int))) (cond (decide (0 ≤ (IntKind.wrap .i64 (a6 - (1 : Int))) ∧ (IntKind.wrap .i64 (a6 - (1 : Int))) < ((a3.length : Nat) : Int))) (cond (decide (((a3.getD ((IntKind.wrap .i64 (a6 - (1 : Int))).toNat) ((0 : Int), ([], ((0 : Int), [])))).1) ≥ ((a3.getD a6.toNat ((0 : Int), ([], ((0 : Int), [])))).1))) (some (e_sl11Job false)) (cond (q_sOpsOk (((a3.getD a6.toNat ((0 : Int), ([], ((0 : Int), [])))).2).1)) (cond (!(sOpsOk (((a3.getD a6.toNat ((0 : Int), ([], ((0 : Int), [])))).2).1))) (some (e_sl11Job false)) (cond (!(k2_sl11Job a3 a6)) (some (e_sl11Job false)) (cond (q_sShardsOf (((a3.getD a6.toNat ((0 : Int), ([], ((0 : Int), [])))).2).1) a0) (cond ((k3_sl11Job a0 a1 a2 a3 a4 a5 a6).1 == 0) (some (e_sl11Job ((k3_sl11Job a0 a1 a2 a3 a4 a5 a6).2))) (cond ((k3_sl11Job a0 a1 a2 a3 a4 a5 a6).1 == 1) (cond (q_sl11Chosen a0 a1 a2 a3 a4 a5 ((a3.getD a6.toNat ((0 : Int), ([], ((0 : Int), [])))).1)) (cond (decide ((sl11Chosen a0 a1 a2 a3 a4 a5 ((a3.getD a6.toNat ((0 : Int), ([], ((0 : Int), [])))).1)) < (0 : Int))) (some (e_sl11Job (((((a3.getD a6.toNat ((0 : Int), ([], ((0 : Int), [])))).2).2).1) == (1 : Int)))) (cond (((((a3.getD a6.toNat ((0 : Int), ([], ((0 : Int), [])))).2).2).1) == (2 : Int)) (cond (decide (0 ≤ (sl11Chosen a0 a1 a2 a3 a4 a5 ((a3.getD a6.toNat ((0 : Int), ([], ((0 : Int), [])))).1)) ∧ (sl11Chosen a0 a1 a2 a3 a4 a5 ((a3.getD a6.toNat ((0 : Int), ([], ((0 : Int), [])))).1)) < ((a4.length : Nat) : Int))) (cond ((a4.getD ((sl11Chosen a0 a1 a2 a3 a4 a5 ((a3.getD a6.toNat ((0 : Int), ([], ((0 : Int), [])))).1)).toNat) ((0 : Int), false)).2) (some (e_sl11Job true)) (cond (((((a3.getD a6.toNat ((0 : Int), ([], ((0 : Int), [])))).2).2).1) == (3 : Int)) (cond (decide (0 ≤ (sl11Chosen a0 a1 a2 a3 a4 a5 ((a3.getD a6.toNat ((0 : Int), ([], ((0 : Int), [])))).1)) ∧ (sl11Chosen a0 a1 a2 a3 a4 a5 ((a3.getD a6.toNat ((0 : Int), ([], ((0 : Int), [])))).1)) < ((a4.length : Nat) : Int))) (some (e_sl11Job (!((a4.getD ((sl11Chosen a0 a1 a2 a3 a4 a5 ((a3.getD a6.toNat ((0 : Int), ([], ((0 : Int), [])))).1)).toNat) ((0 : Int), false)).2)))) none) (some (e_sl11Job false)))) none) (cond (((((a3.getD a6.toNat ((0 : Int), ([], ((0 : Int), [])))).2).2).1) == (3 : Int)) (cond (decide (0 ≤ (sl11Chosen a0 a1 a2 a3 a4 a5 ((a3.getD a6.toNat ((0 : Int), ([], ((0 : Int), [])))).1)) ∧ (sl11Chosen a0 a1 a2 a3 a4 a5 ((a3.getD a6.toNat ((0 : Int), ([], ((0 : Int), [])))).1)) < ((a4.length : Nat) : Int))) (some (e_sl11Job (!((a4.getD ((sl11Chosen a0 a1 a2 a3 a4 a5 ((a3.getD a6.toNat ((0 : Int), ([], ((0 : Int), [])))).1)).toNat) ((0 : Int), false)).2)))) none) (some (e_sl11Job false))))) none) none)) none))) none)) none) (cond (q_sOpsOk (((a3.getD a6.toNat ((0 : Int), ([], ((0 : Int), [])))).2).1)) (cond (!(sOpsOk (((a3.getD a6.toNat ((0 : Int), ([], ((0 : Int), [])))).2).1))) (some (e_sl11Job false)) (cond (!(k2_sl11Job a3 a6)) (some (e_sl11Job false)) (cond (q_sShardsOf (((a3.getD a6.toNat ((0 : Int), ([], ((0 : Int), [])))).2).1) a0) (cond ((k3_sl11Job a0 a1 a2 a3 a4 a5 a6).1 == 0) (some (e_sl11Job ((k3_sl11Job a0 a1 a2 a3 a4 a5 a6).2))) (cond ((k3_sl11Job a0 a1 a2 a3 a4 a5 a6).1 == 1) (cond (q_sl11Chosen a0 a1 a2 a3 a4 a5 ((a3.getD a6.toNat ((0 : Int), ([], ((0 : Int), [])))).1)) (cond (decide ((sl11Chosen a0 a1 a2 a3 a4 a5 ((a3.getD a6.toNat ((0 : Int), ([], ((0 : Int), [])))).1)) < (0 : Int))) (some (e_sl11Job (((((a3.getD a6.toNat ((0 : Int), ([], ((0 : Int), [])))).2).2).1) == (1 : Int)))) (cond (((((a3.getD a6.toNat ((0 : Int), ([], ((0 : Int), [])))).2).2).1) == (2 : Int)) (cond (decide (0 ≤ (sl11Chosen a0 a1 a2 a3 a4 a5 ((a3.getD a6.toNat ((0 : Int), ([], ((0 : Int), [])))).1)) ∧ (sl11Chosen a0 a1 a2 a3 a4 a5 ((a3.getD a6.toNat ((0 : Int), ([], ((0 : Int), [])))).1)) < ((a4.length : Nat) : Int))) (cond ((a4.getD ((sl11Chosen a0 a1 a2 a3 a4 a5 ((a3.getD a6.toNat ((0 : Int), ([], ((0 : Int), [])))).1)).toNat) ((0 : Int), false)).2) (some (e_sl11Job true)) (cond (((((a3.getD a6.toNat ((0 : Int), ([], ((0 : Int), [])))).2).2).1) == (3 : Int)) (cond (decide (0 ≤ (sl11Chosen a0 a1 a2 a3 a4 a5 ((a3.getD a6.toNat ((0 : Int), ([], ((0 : Int), [])))).1)) ∧ (sl11Chosen a0 a1 a2 a3 a4 a5 ((a3.getD a6.toNat ((0 : Int), ([], ((0 : Int), [])))).1)) < ((a4.length : Nat) : Int))) (some (e_sl11Job (!((a4.getD ((sl11Chosen a0 a1 a2 a3 a4 a5 ((a3.getD a6.toNat ((0 : Int), ([], ((0 : Int), [])))).1)).toNat) ((0 : Int), false)).2)))) none) (some (e_sl11Job false)))) none) (cond (((((a3.getD a6.toNat ((0 : Int), ([], ((0 : Int), [])))).2).2).1) == (3 : Int)) (cond (decide (0 ≤ (sl11Chosen a0 a1 a2 a3 a4 a5 ((a3.getD a6.toNat ((0 : Int), ([], ((0 : Int), [])))).1)) ∧ (sl11Chosen a0 a1 a2 a3 a4 a5 ((a3.getD a6.toNat ((0 : Int), ([], ((0 : Int), [])))).1)) < ((a4.length : Nat) : Int))) (some (e_sl11Job (!((a4.getD ((sl11Chosen a0 a1 a2 a3 a4 a5 ((a3.getD a6.toNat ((0 : Int), ([], ((0 : Int), [])))).1)).toNat) ((0 : Int), false)).2)))) none) (some (e_sl11Job false))))) none) none)) none))) none))) none)) (by kernel_rfl) ?_
  exact (cndT (andL hp) (fun _h => (fun hp => (cndQ (F := fun r => some (e_sl11Job r)) hp (fun hp => rfl) (fun hp => (cndQ (F := fun r => some (e_sl11Job r)) hp (fun hp => (cndT (andL hp) (fun _h => (fun hp => (cndQ (F := fun r => some (e_sl11Job r)) hp (fun hp => rfl) (fun hp => (cndT (andL hp) (fun _h => (fun hp => (cndQ (F := fun r => some (e_sl11Job r)) hp (fun hp => rfl) (fun hp => (cndQ (F := fun r => some (e_sl11Job r)) hp (fun hp => rfl) (fun hp => (cndT (andL hp) (fun _h => (fun hp => (cndQ (F := fun r => some (e_sl11Job r)) hp (fun hp => rfl) (fun hp => (cndT (andL hp) (fun _h => (fun hp => (cndT (andL hp) (fun _h => (fun hp => (cndQ (F := fun r => some (e_sl11Job r)) hp (fun hp => rfl) (fun hp => (cndQ (F := fun r => some (e_sl11Job r)) hp (fun hp => (cndT (andL hp) (fun _h => (fun hp => (cndQ (F := fun r => some (e_sl11Job r)) hp (fun hp => rfl) (fun hp => (cndQ (F := fun r => some (e_sl11Job r)) hp (fun hp => (cndT hp (fun _h => rfl))) (fun hp => rfl))))) (andR hp)))) (fun hp => (cndQ (F := fun r => some (e_sl11Job r)) hp (fun hp => (cndT hp (fun _h => rfl))) (fun hp => rfl))))))) (andR hp)))) (andR hp)))))) (andR hp)))))))) (andR hp)))))) (andR hp)))) (fun hp => (cndT (andL hp) (fun _h => (fun hp => (cndQ (F := fun r => some (e_sl11Job r)) hp (fun hp => rfl) (fun hp => (cndQ (F := fun r => some (e_sl11Job r)) hp (fun hp => rfl) (fun hp => (cndT (andL hp) (fun _h => (fun hp => (cndQ (F := fun r => some (e_sl11Job r)) hp (fun hp => rfl) (fun hp => (cndT (andL hp) (fun _h => (fun hp => (cndT (andL hp) (fun _h => (fun hp => (cndQ (F := fun r => some (e_sl11Job r)) hp (fun hp => rfl) (fun hp => (cndQ (F := fun r => some (e_sl11Job r)) hp (fun hp => (cndT (andL hp) (fun _h => (fun hp => (cndQ (F := fun r => some (e_sl11Job r)) hp (fun hp => rfl) (fun hp => (cndQ (F := fun r => some (e_sl11Job r)) hp (fun hp => (cndT hp (fun _h => rfl))) (fun hp => rfl))))) (andR hp)))) (fun hp => (cndQ (F := fun r => some (e_sl11Job r)) hp (fun hp => (cndT hp (fun _h => rfl))) (fun hp => rfl))))))) (andR hp)))) (andR hp)))))) (andR hp)))))))) (andR hp)))))))) (andR hp)))
theorem run_sl11Job : ∀ d, pre_sl11Job d = true → runP true Try.prog tt S26 QF26 (fun b => match b with | 0 => say_sl11Job_0 | _ => fun _ => none) Try.f44 (argsMk P_sl11Job d) = some (g_sl11Job d) := fun d hp => runA_sl11Job d.1.1 d.1.2.1 d.1.2.2.1 d.1.2.2.2.1 d.1.2.2.2.2.1 d.1.2.2.2.2.2.1 d.2.1 hp
theorem c_sl11Job : PContract Try.prog 44 (sumOf P_sl11Job pre_sl11Job g_sl11Job) := PContract.of_data true G26 (fn := Try.f44) (by kernel_rfl) (L := fun b => match b with | 0 => say_sl11Job_0 | _ => fun _ => none) (by rw [show loopsIn 0 (bodyOf Try.f44) = [(0, body_sl11Job_0)] by kernel_rfl]; intro p hp; simp only [List.mem_singleton] at hp; subst hp; exact lw_sl11Job_0) P_sl11Job pre_sl11Job g_sl11Job run_sl11Job
noncomputable def S27 : Tab := Tab.add S26 44 (lift (sumOf P_sl11Job pre_sl11Job g_sl11Job))
noncomputable def QF27 : FuncId → Bool := qadd QF26 44
theorem G27 : Good Try.prog tt S27 QF27 := G26.addQ c_sl11Job ⟨Try.f44, by kernel_rfl, by kernel_rfl, by kernel_rfl⟩ (fun _ => rfl)

/-! 14 loop.example/g00244/spec.CoordOk -/
noncomputable abbrev P_sCoordOk : List PSh := [.agg [(.int .i64), (.int .i64), (.int .i64), (.sl (.pair (.int .i64) (.pair (.sl (.pair (.int .i64) (.pair .str .str))) (.pair (.int .i64) (.sl (.int .i64)))))), (.sl (.pair (.int .i64) .bool)), (.int .i64)]]
noncomputable abbrev S_sCoordOk_0 : SS := ⟨[.junk, .ptr 0 0 1 0, .junk, .t true (.int .i64), .junk, .junk, .junk, .junk, .junk, .junk, .junk, .junk, .junk, .junk, .junk, .junk, .junk, .junk, .junk, .junk, .junk, .junk, .junk, .junk, .junk, .junk, .junk, .junk, .junk, .junk, .junk, .junk, .junk, .junk, .junk, .junk, .junk, .junk, .junk, .junk, .junk, .junk, .junk, .junk, .junk, .junk, .junk, .junk, .junk, .junk, .junk, .junk, .junk, .junk, .junk, .junk, .junk, .junk, .junk, .junk, .junk, .junk, .junk, .junk, .junk, .junk, .junk, .junk, .junk, .junk, .junk, .junk, .junk, .junk, .junk, .junk, .junk, .junk, .junk, .junk, .junk], [.box [.t true (.int .i64), .t true (.int .i64), .t true (.int .i64), .t false (.sl (.pair (.int .i64) (.pair (.sl (.pair (.int .i64) (.pair .str .str))) (.pair (.int .i64) (.sl (.int .i64)))))), .t false (.sl (.pair (.int .i64) .bool)), .t true (.int .i64)]]⟩
noncomputable abbrev E_sCoordOk_0_0 : SS := ⟨[.junk, .junk, .t true .bool, .junk, .junk, .junk, .junk, .junk, .junk, .junk, .junk, .junk, .junk, .junk, .junk, .junk, .junk, .junk, .junk, .junk, .junk, .junk, .junk, .junk, .junk, .junk, .junk, .junk, .junk, .junk, .junk, .junk, .junk, .junk, .junk, .junk, .junk, .junk, .junk, .junk, .junk, .junk, .junk, .junk, .junk, .junk, .junk, .junk, .junk, .junk, .junk, .junk, .junk, .junk, .junk, .junk, .junk, .junk, .junk, .junk, .junk, .junk, .junk, .junk, .junk, .junk, .junk, .junk, .junk, .junk, .junk, .junk, .junk, .junk, .junk, .junk, .junk, .junk, .junk, .junk, .junk], []⟩
noncomputable abbrev E_sCoordOk_0_1 : SS := ⟨[.junk, .ptr 0 0 1 0, .junk, .junk, .junk, .junk, .junk, .junk, .junk, .junk, .junk, .junk, .junk, .junk, .junk, .junk, .junk, .junk, .junk, .junk, .junk, .junk, .junk, .junk, .junk, .junk, .junk, .junk, .junk, .junk, .junk, .junk, .junk, .junk, .junk, .junk, .junk, .junk, .junk, .junk, .junk, .junk, .junk, .junk, .junk, .junk, .junk, .junk, .junk, .junk, .junk, .junk, .junk, .junk, .junk, .junk, .junk, .junk, .junk, .junk, .junk, .junk, .junk, .junk, .junk, .junk, .junk, .junk, .junk, .junk, .junk, .junk, .junk, .junk, .junk, .junk, .junk, .junk, .junk, .junk, .junk], [.box [.t true (.int .i64), .t true (.int .i64), .t true (.int .i64), .t false (.sl (.pair (.int .i64) (.pair (.sl (.pair (.int .i64) (.pair .str .str))) (.pair (.int .i64) (.sl (.int .i64)))))), .t false (.sl (.pair (.int .i64) .bool)), .t true (.int .i64)]]⟩
noncomputable def k1_sCoordOk (x3 : Int) (h0_1 : Int) (h0_2 : Int) (h0_4 : List (Int × Bool)) := sl1In ((h0_4.getD x3.toNat ((0 : Int), false)).1) (1000 : Int) (IntKind.wrap .i64 ((IntKind.wrap .i64 ((IntKind.wrap .i64 (h0_1 * (1000 : Int))) + h0_2)) - (1 : Int)))
noncomputable def st_sCoordOk_0 (x3 : Int) (h0_0 : Int) (h0_1 : Int) (h0_2 : Int) (h0_3 : List (Int × (List (Int × ByteArray × ByteArray)) × Int × List Int)) (h0_4 : List (Int × Bool)) (h0_5 : Int) : RT S_sCoordOk_0.den := (.br (decide (x3 < ((h0_4.length : Nat) : Int))) (.br (decide (0 ≤ x3 ∧ x3 < ((h0_4.length : Nat) : Int))) (.br (!(k1_sCoordOk x3 h0_1 h0_2 h0_4)) (.done .ret E_sCoordOk_0_0 (((), (), false, (), (), (), (), (), (), (), (), (), (), (), (), (), (), (), (), (), (), (), (), (), (), (), (), (), (), (), (), (), (), (), (), (), (), (), (), (), (), (), (), (), (), (), (), (), (), (), (), (), (), (), (), (), (), (), (), (), (), (), (), (), (), (), (), (), (), (), (), (), (), (), (), (), (), (), (), (), (), ()), ())) (.br (decide (0 ≤ x3 ∧ x3 < ((h0_4.length : Nat) : Int))) (.br (q_sl11Chosen h0_0 h0_1 h0_2 h0_3 h0_4 h0_5 ((h0_4.getD x3.toNat ((0 : Int), false)).1)) (.br ((sl11Chosen h0_0 h0_1 h0_2 h0_3 h0_4 h0_5 ((h0_4.getD x3.toNat ((0 : Int), false)).1)) != x3) (.done .ret E_sCoordOk_0_0 (((), (), false, (), (), (), (), (), (), (), (), (), (), (), (), (), (), (), (), (), (), (), (), (), (), (), (), (), (), (), (), (), (), (), (), (), (), (), (), (), (), (), (), (), (), (), (), (), (), (), (), (), (), (), (), (), (), (), (), (), (), (), (), (), (), (), (), (), (), (), (), (), (), (), (), (), (), (), (), (), (), ()), ())) (.next (((), (), (), IntKind.wrap .i64 (x3 + (1 : Int)), (), (), (), (), (), (), (), (), (), (), (), (), (), (), (), (), (), (), (), (), (), (), (), (), (), (), (), (), (), (), (), (), (), (), (), (), (), (), (), (), (), (), (), (), (), (), (), (), (), (), (), (), (), (), (), (), (), (), (), (), (), (), (), (), (), (), (), (), (), (), (), (), (), (), (), (), (), ()), ((h0_0, h0_1, h0_2, h0_3, h0_4, h0_5, ()), ())))) .fail) .fail)) .fail) (.done (.exit 0) E_sCoordOk_0_1 (((), (), (), (), (), (), (), (), (), (), (), (), (), (), (), (), (), (), (), (), (), (), (), (), (), (), (), (), (), (), (), (), (), (), (), (), (), (), (), (), (), (), (), (), (), (), (), (), (), (), (), (), (), (), (), (), (), (), (), (), (), (), (), (), (), (), (), (), (), (), (), (), (), (), (), (), (), (), (), (), (), ()), ((h0_0, h0_1, h0_2, h0_3, h0_4, h0_5, ()), ()))))
noncomputable abbrev V_sCoordOk_0 := (Int)
noncomputable abbrev A_sCoordOk_0 := Nat × (Bool)
noncomputable def fl_sCoordOk_0 : A_sCoordOk_0 := (99, (false : Bool))
noncomputable def ss_sCoordOk_0 (x3 : Int) (h0_0 : Int) (h0_1 : Int) (h0_2 : Int) (h0_3 : List (Int × (List (Int × ByteArray × ByteArray)) × Int × List Int)) (h0_4 : List (Int × Bool)) (h0_5 : Int) : V_sCoordOk_0 ⊕ A_sCoordOk_0 := (cond (decide (x3 < ((h0_4.length : Nat) : Int))) (cond (decide (0 ≤ x3 ∧ x3 < ((h0_4.length : Nat) : Int))) (cond (!(k1_sCoordOk x3 h0_1 h0_2 h0_4)) (.inr (0, false)) (cond (decide (0 ≤ x3 ∧ x3 < ((h0_4.length : Nat) : Int))) (cond (q_sl11Chosen h0_0 h0_1 h0_2 h0_3 h0_4 h0_5 ((h0_4.getD x3.toNat ((0 : Int), false)).1)) (cond ((sl11Chosen h0_0 h0_1 h0_2 h0_3 h0_4 h0_5 ((h0_4.getD x3.toNat ((0 : Int), false)).1)) != x3) (.inr (0, false)) (.inl (IntKind.wrap .i64 (x3 + (1 : Int))))) (.inr fl_sCoordOk_0)) (.inr fl_sCoordOk_0))) (.inr fl_sCoordOk_0)) (.inr (1, (false : Bool))))
noncomputable def it_sCoordOk_0 (x3 : Int) (h0_0 : Int) (h0_1 : Int) (h0_2 : Int) (h0_3 : List (Int × (List (Int × ByteArray × ByteArray)) × Int × List Int)) (h0_4 : List (Int × Bool)) (h0_5 : Int) : A_sCoordOk_0 := itX (fun v : V_sCoordOk_0 => ss_sCoordOk_0 v h0_0 h0_1 h0_2 h0_3 h0_4 h0_5) fl_sCoordOk_0 x3
noncomputable def ct_sCoordOk_0 (h0_0 : Int) (h0_1 : Int) (h0_2 : Int) (h0_3 : List (Int × (List (Int × ByteArray × ByteArray)) × Int × List Int)) (h0_4 : List (Int × Bool)) (h0_5 : Int) (a : A_sCoordOk_0) : CT := (.br (a.1 == 0) (.done .ret E_sCoordOk_0_0 (((), (), a.2, (), (), (), (), (), (), (), (), (), (), (), (), (), (), (), (), (), (), (), (), (), (), (), (), (), (), (), (), (), (), (), (), (), (), (), (), (), (), (), (), (), (), (), (), (), (), (), (), (), (), (), (), (), (), (), (), (), (), (), (), (), (), (), (), (), (), (), (), (), (), (), (), (), (), (), (), (), (), ()), ())) (.br (a.1 == 1) (.done (.exit 0) E_sCoordOk_0_1 (((), (), (), (), (), (), (), (), (), (), (), (), (), (), (), (), (), (), (), (), (), (), (), (), (), (), (), (), (), (), (), (), (), (), (), (), (), (), (), (), (), (), (), (), (), (), (), (), (), (), (), (), (), (), (), (), (), (), (), (), (), (), (), (), (), (), (), (), (), (), (), (), (), (), (), (), (), (), (), (), (), ()), ((h0_0, h0_1, h0_2, h0_3, h0_4, h0_5, ()), ()))) .fail))
noncomputable def T_sCoordOk_0 (x3 : Int) (h0_0 : Int) (h0_1 : Int) (h0_2 : Int) (h0_3 : List (Int × (List (Int × ByteArray × ByteArray)) × Int × List Int)) (h0_4 : List (Int × Bool)) (h0_5 : Int) : CT := (ct_sCoordOk_0 h0_0 h0_1 h0_2 h0_3 h0_4 h0_5) (it_sCoordOk_0 x3 h0_0 h0_1 h0_2 h0_3 h0_4 h0_5)
noncomputable abbrev sp_sCoordOk_0 : S_sCoordOk_0.den → RT S_sCoordOk_0.den := fun d => st_sCoordOk_0 d.1.2.2.2.1 d.2.1.1 d.2.1.2.1 d.2.1.2.2.1 d.2.1.2.2.2.1 d.2.1.2.2.2.2.1 d.2.1.2.2.2.2.2.1
noncomputable abbrev pk_sCoordOk_0 (x3 : Int) (h0_0 : Int) (h0_1 : Int) (h0_2 : Int) (h0_3 : List (Int × (List (Int × ByteArray × ByteArray)) × Int × List Int)) (h0_4 : List (Int × Bool)) (h0_5 : Int) : S_sCoordOk_0.den := (((), (), (), x3, (), (), (), (), (), (), (), (), (), (), (), (), (), (), (), (), (), (), (), (), (), (), (), (), (), (), (), (), (), (), (), (), (), (), (), (), (), (), (), (), (), (), (), (), (), (), (), (), (), (), (), (), (), (), (), (), (), (), (), (), (), (), (), (), (), (), (), (), (), (), (), (), (), (), (), (), (), ()), ((h0_0, h0_1, h0_2, h0_3, h0_4, h0_5, ()), ()))
noncomputable def body_sCoordOk_0 : Code := ((loopsIn 0 (bodyOf Try.f14)).getD 0 (0, .skip)).2
theorem R_sCoordOk_0 (x3 : Int) (h0_0 : Int) (h0_1 : Int) (h0_2 : Int) (h0_3 : List (Int × (List (Int × ByteArray × ByteArray)) × Int × List Int)) (h0_4 : List (Int × Bool)) (h0_5 : Int) : (T_sCoordOk_0 x3 h0_0 h0_1 h0_2 h0_3 h0_4 h0_5).val (D := S_sCoordOk_0.den) = .fail ∨ Runs sp_sCoordOk_0 (pk_sCoordOk_0 x3 h0_0 h0_1 h0_2 h0_3 h0_4 h0_5) (T_sCoordOk_0 x3 h0_0 h0_1 h0_2 h0_3 h0_4 h0_5).val := Runs.ofIt (step := sp_sCoordOk_0) (fun v : V_sCoordOk_0 => pk_sCoordOk_0 v h0_0 h0_1 h0_2 h0_3 h0_4 h0_5) (ct := (ct_sCoordOk_0 h0_0 h0_1 h0_2 h0_3 h0_4 h0_5)) rfl (fun v => ((relB (relB (relB rfl (relB (relB (relB rfl rfl) rfl) rfl)) rfl) rfl) : (st_sCoordOk_0 v h0_0 h0_1 h0_2 h0_3 h0_4 h0_5).val = relS (fun v : V_sCoordOk_0 => pk_sCoordOk_0 v h0_0 h0_1 h0_2 h0_3 h0_4 h0_5) (ct_sCoordOk_0 h0_0 h0_1 h0_2 h0_3 h0_4 h0_5) (ss_sCoordOk_0 v h0_0 h0_1 h0_2 h0_3 h0_4 h0_5))) (fun a => ((cendB (cendD (by simp)) (cendB (cendD (by simp)) cendF)) : CEnd _ ((ct_sCoordOk_0 h0_0 h0_1 h0_2 h0_3 h0_4 h0_5) a))) x3
theorem rd_sCoordOk_0 : ∀ d, execC Try.prog tt S27 QF27 (fun _ _ => none) 0 body_sCoordOk_0 (S_sCoordOk_0.st d 0 []) (fun e s' => some (e, S_sCoordOk_0.cutE (kepts [2] [(0, [1])]) e s')) = (sp_sCoordOk_0 d).opt 0 [] := by
  intro d
  kernel_rfl
noncomputable abbrev say_sCoordOk_0 : St → Option Tree := S_sCoordOk_0.say 0 [] [] (fun d => T_sCoordOk_0 d.1.2.2.2.1 d.2.1.1 d.2.1.2.1 d.2.1.2.2.1 d.2.1.2.2.2.1 d.2.1.2.2.2.2.1 d.2.1.2.2.2.2.2.1)
theorem lw_sCoordOk_0 : LoopWp Try.prog say_sCoordOk_0 body_sCoordOk_0 := SS.wp G27 (fun _ _ => none) (by rw [show loopsIn 0 body_sCoordOk_0 = [] by kernel_rfl]; simp) S_sCoordOk_0 0 [] (kepts [2] [(0, [1])]) [] sp_sCoordOk_0 rd_sCoordOk_0 _ (fun d => R_sCoordOk_0 d.1.2.2.2.1 d.2.1.1 d.2.1.2.1 d.2.1.2.2.1 d.2.1.2.2.2.1 d.2.1.2.2.2.2.1 d.2.1.2.2.2.2.2.1)
noncomputable abbrev S_sCoordOk_1 : SS := ⟨[.junk, .ptr 0 0 1 0, .junk, .junk, .t true (.int .i64), .junk, .junk, .junk, .junk, .junk, .junk, .junk, .junk, .junk, .junk, .junk, .junk, .junk, .junk, .junk, .junk, .junk, .junk, .junk, .junk, .junk, .junk, .junk, .junk, .junk, .junk, .junk, .junk, .junk, .junk, .junk, .junk, .junk, .junk, .junk, .junk, .junk, .junk, .junk, .junk, .junk, .junk, .junk, .junk, .junk, .junk, .junk, .junk, .junk, .junk, .junk, .junk, .junk, .junk, .junk, .junk, .junk, .junk, .junk, .junk, .junk, .junk, .junk, .junk, .junk, .junk, .junk, .junk, .junk, .junk, .junk, .junk, .junk, .junk, .junk, .junk], [.box [.t true (.int .i64), .t true (.int .i64), .t true (.int .i64), .t false (.sl (.pair (.int .i64) (.pair (.sl (.pair (.int .i64) (.pair .str .str))) (.pair (.int .i64) (.sl (.int .i64)))))), .t false (.sl (.pair (.int .i64) .bool)), .t true (.int .i64)]]⟩
noncomputable abbrev E_sCoordOk_1_0 : SS := ⟨[.junk, .junk, .t true .bool, .junk, .junk, .junk, .junk, .junk, .junk, .junk, .junk, .junk, .junk, .junk, .junk, .junk, .junk, .junk, .junk, .junk, .junk, .junk, .junk, .junk, .junk, .junk, .junk, .junk, .junk, .junk, .junk, .junk, .junk, .junk, .junk, .junk, .junk, .junk, .junk, .junk, .junk, .junk, .junk, .junk, .junk, .junk, .junk, .junk, .junk, .junk, .junk, .junk, .junk, .junk, .junk, .junk, .junk, .junk, .junk, .junk, .junk, .junk, .junk, .junk, .junk, .junk, .junk, .junk, .junk, .junk, .junk, .junk, .junk, .junk, .junk, .junk, .junk, .junk, .junk, .junk, .junk], []⟩
noncomputable abbrev E_sCoordOk_1_1 : SS := ⟨[.junk, .junk, .junk, .junk, .junk, .junk, .junk, .junk, .junk, .junk, .junk, .junk, .junk, .junk, .junk, .junk, .junk, .junk, .junk, .junk, .junk, .junk, .junk, .junk, .junk, .junk, .junk, .junk, .junk, .junk, .junk, .junk, .junk, .junk, .junk, .junk, .junk, .junk, .junk, .junk, .junk, .junk, .junk, .junk, .junk, .junk, .junk, .junk, .junk, .junk, .junk, .junk, .junk, .junk, .junk, .junk, .junk, .junk, .junk, .junk, .junk, .junk, .junk, .junk, .junk, .junk, .junk, .junk, .junk, .junk, .junk, .junk, .junk, .junk, .junk, .junk, .junk, .junk, .junk, .junk, .junk], []⟩
noncomputable def st_sCoordOk_1 (x4 : Int) (h0_0 : Int) (h0_1 : Int) (h0_2 : Int) (h0_3 : List (Int × (List (Int × ByteArray × ByteArray)) × Int × List Int)) (h0_4 : List (Int × Bool)) (h0_5 : Int) : RT S_sCoordOk_1.den := (.br (decide (x4 < ((h0_3.length : Nat) : Int))) (.br (q_sl11Job h0_0 h0_1 h0_2 h0_3 h0_4 h0_5 x4) (.br (!(sl11Job h0_0 h0_1 h0_2 h0_3 h0_4 h0_5 x4)) (.done .ret E_sCoordOk_1_0 (((), (), false, (), (), (), (), (), (), (), (), (), (), (), (), (), (), (), (), (), (), (), (), (), (), (), (), (), (), (), (), (), (), (), (), (), (), (), (), (), (), (), (), (), (), (), (), (), (), (), (), (), (), (), (), (), (), (), (), (), (), (), (), (), (), (), (), (), (), (), (), (), (), (), (), (), (), (), (), (), (), ()), ())) (.next (((), (), (), (), IntKind.wrap .i64 (x4 + (1 : Int)), (), (), (), (), (), (), (), (), (), (), (), (), (), (), (), (), (), (), (), (), (), (), (), (), (), (), (), (), (), (), (), (), (), (), (), (), (), (), (), (), (), (), (), (), (), (), (), (), (), (), (), (), (), (), (), (), (), (), (), (), (), (), (), (), (), (), (), (), (), (), (), (), (), (), (), (), ()), ((h0_0, h0_1, h0_2, h0_3, h0_4, h0_5, ()), ())))) .fail) (.done (.exit 2) E_sCoordOk_1_1 (((), (), (), (), (), (), (), (), (), (), (), (), (), (), (), (), (), (), (), (), (), (), (), (), (), (), (), (), (), (), (), (), (), (), (), (), (), (), (), (), (), (), (), (), (), (), (), (), (), (), (), (), (), (), (), (), (), (), (), (), (), (), (), (), (), (), (), (), (), (), (), (), (), (), (), (), (), (), (), (), (), ()), ())))
noncomputable abbrev V_sCoordOk_1 := (Int)
noncomputable abbrev A_sCoordOk_1 := Nat × (Bool)
noncomputable def fl_sCoordOk_1 : A_sCoordOk_1 := (99, (false : Bool))
noncomputable def ss_sCoordOk_1 (x4 : Int) (h0_0 : Int) (h0_1 : Int) (h0_2 : Int) (h0_3 : List (Int × (List (Int × ByteArray × ByteArray)) × Int × List Int)) (h0_4 : List (Int × Bool)) (h0_5 : Int) : V_sCoordOk_1 ⊕ A_sCoordOk_1 := (cond (decide (x4 < ((h0_3.length : Nat) : Int))) (cond (q_sl11Job h0_0 h0_1 h0_2 h0_3 h0_4 h0_5 x4) (cond (!(sl11Job h0_0 h0_1 h0_2 h0_3 h0_4 h0_5 x4)) (.inr (0, false)) (.inl (IntKind.wrap .i64 (x4 + (1 : Int))))) (.inr fl_sCoordOk_1)) (.inr (1, (false : Bool))))
noncomputable def it_sCoordOk_1 (x4 : Int) (h0_0 : Int) (h0_1 : Int) (h0_2 : Int) (h0_3 : List (Int × (List (Int × ByteArray × ByteArray)) × Int × List Int)) (h0_4 : List (Int × Bool)) (h0_5 : Int) : A_sCoordOk_1 := itX (fun v : V_sCoordOk_1 => ss_sCoordOk_1 v h0_0 h0_1 h0_2 h0_3 h0_4 h0_5) fl_sCoordOk_1 x4
noncomputable def ct_sCoordOk_1 (h0_0 : Int) (h0_1 : Int) (h0_2 : Int) (h0_3 : List (Int × (List (Int × ByteArray × ByteArray)) × Int × List Int)) (h0_4 : List (Int × Bool)) (h0_5 : Int) (a : A_sCoordOk_1) : CT := (.br (a.1 == 0) (.done .ret E_sCoordOk_1_0 (((), (), a.2, (), (), (), (), (), (), (), (), (), (), (), (), (), (), (), (), (), (), (), (), (), (), (), (), (), (), (), (), (), (), (), (), (), (), (), (), (), (), (), (), (), (), (), (), (), (), (), (), (), (), (), (), (), (), (), (), (), (), (), (), (), (), (), (), (), (), (), (), (), (), (), (), (), (), (), (), (), (), ()), ())) (.br (a.1 == 1) (.done (.exit 2) E_sCoordOk_1_1 (((), (), (), (), (), (), (), (), (), (), (), (), (), (), (), (), (), (), (), (), (), (), (), (), (), (), (), (), (), (), (), (), (), (), (), (), (), (), (), (), (), (), (), (), (), (), (), (), (), (), (), (), (), (), (), (), (), (), (), (), (), (), (), (), (), (), (), (), (), (), (), (), (), (), (), (), (), (), (), (), (), ()), ())) .fail))
noncomputable def T_sCoordOk_1 (x4 : Int) (h0_0 : Int) (h0_1 : Int) (h0_2 : Int) (h0_3 : List (Int × (List (Int × ByteArray × ByteArray)) × Int × List Int)) (h0_4 : List (Int × Bool)) (h0_5 : Int) : CT := (ct_sCoordOk_1 h0_0 h0_1 h0_2 h0_3 h0_4 h0_5) (it_sCoordOk_1 x4 h0_0 h0_1 h0_2 h0_3 h0_4 h0_5)
noncomputable abbrev sp_sCoordOk_1 : S_sCoordOk_1.den → RT S_sCoordOk_1.den := fun d => st_sCoordOk_1 d.1.2.2.2.2.1 d.2.1.1 d.2.1.2.1 d.2.1.2.2.1 d.2.1.2.2.2.1 d.2.1.2.2.2.2.1 d.2.1.2.2.2.2.2.1
noncomputable abbrev pk_sCoordOk_1 (x4 : Int) (h0_0 : Int) (h0_1 : Int) (h0_2 : Int) (h0_3 : List (Int × (List (Int × ByteArray × ByteArray)) × Int × List Int)) (h0_4 : List (Int × Bool)) (h0_5 : Int) : S_sCoordOk_1.den := (((), (), (), (), x4, (), (), (), (), (), (), (), (), (), (), (), (), (), (), (), (), (), (), (), (), (), (), (), (), (), (), (), (), (), (), (), (), (), (), (), (), (), (), (), (), (), (), (), (), (), (), (), (), (), (), (), (), (), (), (), (), (), (), (), (), (), (), (), (), (), (), (), (), (), (), (), (), (), (), (), (), ()), ((h0_0, h0_1, h0_2, h0_3, h0_4, h0_5, ()), ()))
noncomputable def body_sCoordOk_1 : Code := ((loopsIn 0 (bodyOf Try.f14)).getD 1 (0, .skip)).2
theorem R_sCoordOk_1 (x4 : Int) (h0_0 : Int) (h0_1 : Int) (h0_2 : Int) (h0_3 : List (Int × (List (Int × ByteArray × ByteArray)) × Int × List Int)) (h0_4 : List (Int × Bool)) (h0_5 : Int) : (T_sCoordOk_1 x4 h0_0 h0_1 h0_2 h0_3 h0_4 h0_5).val (D := S_sCoordOk_1.den) = .fail ∨ Runs sp_sCoordOk_1 (pk_sCoordOk_1 x4 h0_0 h0_1 h0_2 h0_3 h0_4 h0_5) (T_sCoordOk_1 x4 h0_0 h0_1 h0_2 h0_3 h0_4 h0_5).val := Runs.ofIt (step := sp_sCoordOk_1) (fun v : V_sCoordOk_1 => pk_sCoordOk_1 v h0_0 h0_1 h0_2 h0_3 h0_4 h0_5) (ct := (ct_sCoordOk_1 h0_0 h0_1 h0_2 h0_3 h0_4 h0_5)) rfl (fun v => ((relB (relB (relB rfl rfl) rfl) rfl) : (st_sCoordOk_1 v h0_0 h0_1 h0_2 h0_3 h0_4 h0_5).val = relS (fun v : V_sCoordOk_1 => pk_sCoordOk_1 v h0_0 h0_1 h0_2 h0_3 h0_4 h0_5) (ct_sCoordOk_1 h0_0 h0_1 h0_2 h0_3 h0_4 h0_5) (ss_sCoordOk_1 v h0_0 h0_1 h0_2 h0_3 h0_4 h0_5))) (fun a => ((cendB (cendD (by simp)) (cendB (cendD (by simp)) cendF)) : CEnd _ ((ct_sCoordOk_1 h0_0 h0_1 h0_2 h0_3 h0_4 h0_5) a))) x4
theorem rd_sCoordOk_1 : ∀ d, execC Try.prog tt S27 QF27 (fun _ _ => none) 2 body_sCoordOk_1 (S_sCoordOk_1.st d 0 []) (fun e s' => some (e, S_sCoordOk_1.cutE (kepts [2] [(2, [])]) e s')) = (sp_sCoordOk_1 d).opt 0 [] := by
  intro d
  kernel_rfl
noncomputable abbrev say_sCoordOk_1 : St → Option Tree := S_sCoordOk_1.say 0 [] [] (fun d => T_sCoordOk_1 d.1.2.2.2.2.1 d.2.1.1 d.2.1.2.1 d.2.1.2.2.1 d.2.1.2.2.2.1 d.2.1.2.2.2.2.1 d.2.1.2.2.2.2.2.1)
theorem lw_sCoordOk_1 : LoopWp Try.prog say_sCoordOk_1 body_sCoordOk_1 := SS.wp G27 (fun _ _ => none) (by rw [show loopsIn 2 body_sCoordOk_1 = [] by kernel_rfl]; simp) S_sCoordOk_1 0 [] (kepts [2] [(2, [])]) [] sp_sCoordOk_1 rd_sCoordOk_1 _ (fun d => R_sCoordOk_1 d.1.2.2.2.2.1 d.2.1.1 d.2.1.2.1 d.2.1.2.2.1 d.2.1.2.2.2.1 d.2.1.2.2.2.2.1 d.2.1.2.2.2.2.2.1)
noncomputable def sCoordOk (a0 : Int) (a1 : Int) (a2 : Int) (a3 : List (Int × (List (Int × ByteArray × ByteArray)) × Int × List Int)) (a4 : List (Int × Bool)) (a5 : Int) : Bool := (cond (!(sl1In a0 (1 : Int) (8 : Int))) false (cond (!(sl1In a1 (1 : Int) (900 : Int))) false (cond (!(sl1In a2 (0 : Int) (999 : Int))) false (cond (decide (((a4.length : Nat) : Int) > (1000 : Int))) false (cond (!(sl1In a5 (0 : Int) ((a4.length : Nat) : Int))) false (cond ((it_sCoordOk_0 (0 : Int) a0 a1 a2 a3 a4 a5).1 == 0) ((it_sCoordOk_0 (0 : Int) a0 a1 a2 a3 a4 a5).2) (cond ((it_sCoordOk_1 (0 : Int) a0 a1 a2 a3 a4 a5).1 == 0) ((it_sCoordOk_1 (0 : Int) a0 a1 a2 a3 a4 a5).2) true)))))))
noncomputable abbrev e_sCoordOk (r : Bool) : AV × List AObj := ((.t true .bool r), [])
noncomputable abbrev g_sCoordOk : pshsDen P_sCoordOk → AV × List AObj := fun d => e_sCoordOk (sCoordOk d.1.1 d.1.2.1 d.1.2.2.1 d.1.2.2.2.1 d.1.2.2.2.2.1 d.1.2.2.2.2.2.1)
noncomputable def q_sCoordOk (a0 : Int) (a1 : Int) (a2 : Int) (a3 : List (Int × (List (Int × ByteArray × ByteArray)) × Int × List Int)) (a4 : List (Int × Bool)) (a5 : Int) : Bool := cond (!(sl1In a0 (1 : Int) (8 : Int))) true (cond (!(sl1In a1 (1 : Int) (900 : Int))) true (cond (!(sl1In a2 (0 : Int) (999 : Int))) true (cond (decide (((a4.length : Nat) : Int) > (1000 : Int))) true (cond (!(sl1In a5 (0 : Int) ((a4.length : Nat) : Int))) true (cond ((it_sCoordOk_0 (0 : Int) a0 a1 a2 a3 a4 a5).1 == 0) true (((it_sCoordOk_0 (0 : Int) a0 a1 a2 a3 a4 a5).1 == 1) && (cond ((it_sCoordOk_1 (0 : Int) a0 a1 a2 a3 a4 a5).1 == 0) true ((it_sCoordOk_1 (0 : Int) a0 a1 a2 a3 a4 a5).1 == 1))))))))
noncomputable abbrev pre_sCoordOk : pshsDen P_sCoordOk → Bool := fun d => q_sCoordOk d.1.1 d.1.2.1 d.1.2.2.1 d.1.2.2.2.1 d.1.2.2.2.2.1 d.1.2.2.2.2.2.1
theorem runA_sCoordOk (a0 : Int) (a1 : Int) (a2 : Int) (a3 : List (Int × (List (Int × ByteArray × ByteArray)) × Int × List Int)) (a4 : List (Int × Bool)) (a5 : Int) (hp : (cond (!(sl1In a0 (1 : Int) (8 : Int))) true (cond (!(sl1In a1 (1 : Int) (900 : Int))) true (cond (!(sl1In a2 (0 : Int) (999 : Int))) true (cond (decide (((a4.length : Nat) : Int) > (1000 : Int))) true (cond (!(sl1In a5 (0 : Int) ((a4.length : Nat) : Int))) true (cond ((it_sCoordOk_0 (0 : Int) a0 a1 a2 a3 a4 a5).1 == 0) true (((it_sCoordOk_0 (0 : Int) a0 a1 a2 a3 a4 a5).1 == 1) && (cond ((it_sCoordOk_1 (0 : Int) a0 a1 a2 a3 a4 a5).1 == 0) true ((it_sCoordOk_1 (0 : Int) a0 a1 a2 a3 a4 a5).1 == 1))))))))) = true) : runP true Try.prog tt S27 QF27 (fun b => match b with | 0 => say_sCoordOk_0 | 2 => say_sCoordOk_1 | _ => fun _ => none) Try.f14 (argsMk P_sCoordOk ((a0, (a1, (a2, (a3, (a4, (a5, ())))))), ())) = some (g_sCoordOk ((a0, (a1, (a2, (a3, (a4, (a5, ())))))), ())) := by
  refine Eq.trans (b := (cond (!(sl1In a0 (1 : Int) (8 : Int))) (some (e_sCoordOk false)) (cond (!(sl1In a1 (1 : Int) (900 : Int))) (some (e_sCoordOk false)) (cond (!(sl1In a2 (0 : Int) (999 : Int))) (some (e_sCoordOk false)) (cond (decide (((a4.length : Nat) : Int) > (1000 : Int))) (some (e_sCoordOk false)) (cond (!(sl1In a5 (0 : Int) ((a4.length : Nat) : Int))) (some (e_sCoordOk false)) (cond ((it_sCoordOk_0 (0 : Int) a0 a1 a2 a3 a4 a5).1 == 0) (some (e_sCoordOk ((it_sCoordOk_0 (0 : Int) a0 a1 a2 a3 a4 a5).2))) (cond ((it_sCoordOk_0 (0 : Int) a0 a1 a2 a3 a4 a5).1 == 1) (cond ((it_sCoordOk_1 (0 : Int) a0 a1 a2 a3 a4 a5).1 == 0) (some (e_sCoordOk ((it_sCoordOk_1 (0 : Int) a0 a1 a2 a3 a4 a5).2))) (cond ((it_sCoordOk_1 (0 : Int) a0 a1 a2 a3 a4 a5).1 == 1) (some (e_sCoordOk true)) none)) none)))))))) (by kernel_rfl) ?_
  exact (cndQ (F := fun r => some (e_sCoordOk r)) hp (fun hp => rfl) (fun hp => (cndQ (F := fun r => some (e_sCoordOk r)) hp (fun hp => rfl) (fun hp => (cndQ (F := fun r => some (e_sCoordOk r)) hp (fun hp => rfl) (fun hp => (cndQ (F := fun r => some (e_sCoordOk r)) hp (fun hp => rfl) (fun hp => (cndQ (F := fun r => some (e_sCoordOk r)) hp (fun hp => rfl) (fun hp => (cndQ (F := fun r => some (e_sCoordOk r)) hp (fun hp => rfl) (fun hp => (cndT (andL hp) (fun _h => (fun hp => (cndQ (F := fun r => some (e_sCoordOk r)) hp (fun hp => rfl) (fun hp => (cndT hp (fun _h => rfl))))) (andR hp)))))))))))))))
theorem run_sCoordOk : ∀ d, pre_sCoordOk d = true → runP true Try.prog tt S27 QF27 (fun b => match b with | 0 => say_sCoordOk_0 | 2 => say_sCoordOk_1 | _ => fun _ => none) Try.f14 (argsMk P_sCoordOk d) = some (g_sCoordOk d) := fun d hp => runA_sCoordOk d.1.1 d.1.2.1 d.1.2.2.1 d.1.2.2.2.1 d.1.2.2.2.2.1 d.1.2.2.2.2.2.1 hp
theorem c_sCoordOk : PContract Try.prog 14 (sumOf P_sCoordOk pre_sCoordOk g_sCoordOk) := PContract.of_data true G27 (fn := Try.f14) (by kernel_rfl) (L := fun b => match b with | 0 => say_sCoordOk_0 | 2 => say_sCoordOk_1 | _ => fun _ => none) (by
    rw [show loopsIn 0 (bodyOf Try.f14) = [(0, body_sCoordOk_0), (2, body_sCoordOk_1)] by kernel_rfl]; intro p hp; simp only [List.mem_cons, List.mem_nil_iff, or_false] at hp
    rcases hp with rfl | rfl
    · exact lw_sCoordOk_0
    · exact lw_sCoordOk_1) P_sCoordOk pre_sCoordOk g_sCoordOk run_sCoordOk
noncomputable def S28 : Tab := Tab.add S27 14 (lift (sumOf P_sCoordOk pre_sCoordOk g_sCoordOk))
noncomputable def QF28 : FuncId → Bool := qadd QF27 14
theorem G28 : Good Try.prog tt S28 QF28 := G27.addQ c_sCoordOk ⟨Try.f14, by kernel_rfl, by kernel_rfl, by kernel_rfl⟩ (fun _ => rfl)

/-! 53 loop.example/g00244/spec.l11Answer -/
noncomputable abbrev P_sl11Answer : List PSh := [.agg [(.int .i64), (.int .i64), (.int .i64), (.sl (.pair (.int .i64) (.pair (.sl (.pair (.int .i64) (.pair .str .str))) (.pair (.int .i64) (.sl (.int .i64)))))), (.sl (.pair (.int .i64) .bool)), (.int .i64)], .t (.int .i64)]
noncomputable def sl11Answer (a0 : Int) (a1 : Int) (a2 : Int) (a3 : List (Int × (List (Int × ByteArray × ByteArray)) × Int × List Int)) (a4 : List (Int × Bool)) (a5 : Int) (a6 : Int) : Bool × Bool := (cond (decide (a6 < (1000 : Int))) (false, false) (cond (decide ((sl11Chosen a0 a1 a2 a3 a4 a5 a6) ≥ (0 : Int))) (cond ((a4.getD ((sl11Chosen a0 a1 a2 a3 a4 a5 a6).toNat) ((0 : Int), false)).2) (decide ((sl11Chosen a0 a1 a2 a3 a4 a5 a6) < a5), decide ((sl11Chosen a0 a1 a2 a3 a4 a5 a6) < a5)) (false, decide ((sl11Chosen a0 a1 a2 a3 a4 a5 a6) < a5))) (false, decide (a6 < (IntKind.wrap .i64 (a1 * (1000 : Int)))))))
noncomputable abbrev e_sl11Answer (r : Bool × Bool) : AV × List AObj := ((.tup [(.t true .bool r.1), (.t true .bool r.2)]), [])
noncomputable abbrev g_sl11Answer : pshsDen P_sl11Answer → AV × List AObj := fun d => e_sl11Answer (sl11Answer d.1.1 d.1.2.1 d.1.2.2.1 d.1.2.2.2.1 d.1.2.2.2.2.1 d.1.2.2.2.2.2.1 d.2.1)
noncomputable def q_sl11Answer (a0 : Int) (a1 : Int) (a2 : Int) (a3 : List (Int × (List (Int × ByteArray × ByteArray)) × Int × List Int)) (a4 : List (Int × Bool)) (a5 : Int) (a6 : Int) : Bool := (q_sl11Chosen a0 a1 a2 a3 a4 a5 a6) && (cond (decide (a6 < (1000 : Int))) true (cond (decide ((sl11Chosen a0 a1 a2 a3 a4 a5 a6) ≥ (0 : Int))) (decide (0 ≤ (sl11Chosen a0 a1 a2 a3 a4 a5 a6) ∧ (sl11Chosen a0 a1 a2 a3 a4 a5 a6) < ((a4.length : Nat) : Int))) true))
noncomputable abbrev pre_sl11Answer : pshsDen P_sl11Answer → Bool := fun d => q_sl11Answer d.1.1 d.1.2.1 d.1.2.2.1 d.1.2.2.2.1 d.1.2.2.2.2.1 d.1.2.2.2.2.2.1 d.2.1
theorem runA_sl11Answer (a0 : Int) (a1 : Int) (a2 : Int) (a3 : List (Int × (List (Int × ByteArray × ByteArray)) × Int × List Int)) (a4 : List (Int × Bool)) (a5 : Int) (a6 : Int) (hp : ((q_sl11Chosen a0 a1 a2 a3 a4 a5 a6) && (cond (decide (a6 < (1000 : Int))) true (cond (decide ((sl11Chosen a0 a1 a2 a3 a4 a5 a6) ≥ (0 : Int))) (decide (0 ≤ (sl11Chosen a0 a1 a2 a3 a4 a5 a6) ∧ (sl11Chosen a0 a1 a2 a3 a4 a5 a6) < ((a4.length : Nat) : Int))) true))) = true) : runP true Try.prog tt S28 QF28 (fun _ _ => none) Try.f53 (argsMk P_sl11Answer ((a0, (a1, (a2, (a3, (a4, (a5, ())))))), (a6, ()))) = some (g_sl11Answer ((a0, (a1, (a2, (a3, (a4, (a5, ())))))), (a6, ()))) := by
  refine Eq.trans (b := (cond (q_sl11Chosen a0 a1 a2 a3 a4 a5 a6) (cond (decide (a6 < (1000 : Int))) (some (e_sl11Answer (false, false))) (cond (decide ((sl11Chosen a0 a1 a2 a3 a4 a5 a6) ≥ (0 : Int))) (cond (decide (0 ≤ (sl11Chosen a0 a1 a2 a3 a4 a5 a6) ∧ (sl11Chosen a0 a1 a2 a3 a4 a5 a6) < ((a4.length : Nat) : Int))) (cond ((a4.getD ((sl11Chosen a0 a1 a2 a3 a4 a5 a6).toNat) ((0 : Int), false)).2) (some (e_sl11Answer (decide ((sl11Chosen a0 a1 a2 a3 a4 a5 a6) < a5), decide ((sl11Chosen a0 a1 a2 a3 a4 a5 a6) < a5)))) (some (e_sl11Answer (false, decide ((sl11Chosen a0 a1 a2 a3 a4 a5 a6) < a5))))) none) (some (e_sl11Answer (false, decide (a6 < (IntKind.wrap .i64 (a1 * (1000 : Int))))))))) none)) (by kernel_rfl) ?_
  exact (cndT (andL hp) (fun _h => (fun hp => (cndQ (F := fun r => some (e_sl11Answer r)) hp (fun hp => rfl) (fun hp => (cndQ (F := fun r => some (e_sl11Answer r)) hp (fun hp => (cndT hp (fun _h => (cnd (F := fun r => some (e_sl11Answer r)) (fun _h => rfl) (fun _h => rfl))))) (fun hp => rfl))))) (andR hp)))
theorem run_sl11Answer : ∀ d, pre_sl11Answer d = true → runP true Try.prog tt S28 QF28 (fun _ _ => none) Try.f53 (argsMk P_sl11Answer d) = some (g_sl11Answer d) := fun d hp => runA_sl11Answer d.1.1 d.1.2.1 d.1.2.2.1 d.1.2.2.2.1 d.1.2.2.2.2.1 d.1.2.2.2.2.2.1 d.2.1 hp
theorem c_sl11Answer : PContract Try.prog 53 (sumOf P_sl11Answer pre_sl11Answer g_sl11Answer) := PContract.of_data true G28 (fn := Try.f53) (by kernel_rfl) (L := fun _ _ => none) (by rw [show loopsIn 0 (bodyOf Try.f53) = [] by kernel_rfl]; simp) P_sl11Answer pre_sl11Answer g_sl11Answer run_sl11Answer
noncomputable def S29 : Tab := Tab.add S28 53 (lift (sumOf P_sl11Answer pre_sl11Answer g_sl11Answer))
noncomputable def QF29 : FuncId → Bool := qadd QF28 53
theorem G29 : Good Try.prog tt S29 QF29 := G28.addQ c_sl11Answer ⟨Try.f53, by kernel_rfl, by kernel_rfl, by kernel_rfl⟩ (fun _ => rfl)

/-! 18 loop.example/g00244/spec.Answer -/
noncomputable abbrev P_sAnswer : List PSh := [.agg [(.int .i64), (.int .i64), (.int .i64), (.sl (.pair (.int .i64) (.pair (.sl (.pair (.int .i64) (.pair .str .str))) (.pair (.int .i64) (.sl (.int .i64)))))), (.sl (.pair (.int .i64) .bool)), (.int .i64)], .t (.int .i64)]
noncomputable def sAnswer (a0 : Int) (a1 : Int) (a2 : Int) (a3 : List (Int × (List (Int × ByteArray × ByteArray)) × Int × List Int)) (a4 : List (Int × Bool)) (a5 : Int) (a6 : Int) : Bool × Bool := (cond (!(sCoordOk a0 a1 a2 a3 a4 a5)) (false, false) (((sl11Answer a0 a1 a2 a3 a4 a5 a6).1), ((sl11Answer a0 a1 a2 a3 a4 a5 a6).2)))
noncomputable abbrev e_sAnswer (r : Bool × Bool) : AV × List AObj := ((.tup [(.t true .bool r.1), (.t true .bool r.2)]), [])
noncomputable abbrev g_sAnswer : pshsDen P_sAnswer → AV × List AObj := fun d => e_sAnswer (sAnswer d.1.1 d.1.2.1 d.1.2.2.1 d.1.2.2.2.1 d.1.2.2.2.2.1 d.1.2.2.2.2.2.1 d.2.1)
noncomputable def q_sAnswer (a0 : Int) (a1 : Int) (a2 : Int) (a3 : List (Int × (List (Int × ByteArray × ByteArray)) × Int × List Int)) (a4 : List (Int × Bool)) (a5 : Int) (a6 : Int) : Bool := (q_sCoordOk a0 a1 a2 a3 a4 a5) && (cond (!(sCoordOk a0 a1 a2 a3 a4 a5)) true (q_sl11Answer a0 a1 a2 a3 a4 a5 a6))
noncomputable abbrev pre_sAnswer : pshsDen P_sAnswer → Bool := fun d => q_sAnswer d.1.1 d.1.2.1 d.1.2.2.1 d.1.2.2.2.1 d.1.2.2.2.2.1 d.1.2.2.2.2.2.1 d.2.1
theorem runA_sAnswer (a0 : Int) (a1 : Int) (a2 : Int) (a3 : List (Int × (List (Int × ByteArray × ByteArray)) × Int × List Int)) (a4 : List (Int × Bool)) (a5 : Int) (a6 : Int) (hp : ((q_sCoordOk a0 a1 a2 a3 a4 a5) && (cond (!(sCoordOk a0 a1 a2 a3 a4 a5)) true (q_sl11Answer a0 a1 a2 a3 a4 a5 a6))) = true) : runP true Try.prog tt S29 QF29 (fun _ _ => none) Try.f18 (argsMk P_sAnswer ((a0, (a1, (a2, (a3, (a4, (a5, ())))))), (a6, ()))) = some (g_sAnswer ((a0, (a1, (a2, (a3, (a4, (a5, ())))))), (a6, ()))) := by
  refine Eq.trans (b := (cond (q_sCoordOk a0 a1 a2 a3 a4 a5) (cond (!(sCoordOk a0 a1 a2 a3 a4 a5)) (some (e_sAnswer (false, false))) (cond (q_sl11Answer a0 a1 a2 a3 a4 a5 a6) (some (e_sAnswer (((sl11Answer a0 a1 a2 a3 a4 a5 a6).1), ((sl11Answer a0 a1 a2 a3 a4 a5 a6).2)))) none)) none)) (by kernel_rfl) ?_
  exact (cndT (andL hp) (fun _h => (fun hp => (cndQ (F := fun r => some (e_sAnswer r)) hp (fun hp => rfl) (fun hp => (cndT hp (fun _h => rfl))))) (andR hp)))
theorem run_sAnswer : ∀ d, pre_sAnswer d = true → runP true Try.prog tt S29 QF29 (fun _ _ => none) Try.f18 (argsMk P_sAnswer d) = some (g_sAnswer d) := fun d hp => runA_sAnswer d.1.1 d.1.2.1 d.1.2.2.1 d.1.2.2.2.1 d.1.2.2.2.2.1 d.1.2.2.2.2.2.1 d.2.1 hp
theorem c_sAnswer : PContract Try.prog 18 (sumOf P_sAnswer pre_sAnswer g_sAnswer) := PContract.of_data true G29 (fn := Try.f18) (by kernel_rfl) (L := fun _ _ => none) (by rw [show loopsIn 0 (bodyOf Try.f18) = [] by kernel_rfl]; simp) P_sAnswer pre_sAnswer g_sAnswer run_sAnswer
noncomputable def S30 : Tab := Tab.add S29 18 (lift (sumOf P_sAnswer pre_sAnswer g_sAnswer))
noncomputable def QF30 : FuncId → Bool := qadd QF29 18
theorem G30 : Good Try.prog tt S30 QF30 := G29.addQ c_sAnswer ⟨Try.f18, by kernel_rfl, by kernel_rfl, by kernel_rfl⟩ (fun _ => rfl)

/-! 47 loop.example/g00244/impl.inRange -/
noncomputable abbrev P_iinRange : List PSh := [.t (.int .i64), .t (.int .i64), .t (.int .i64)]
noncomputable def iinRange (a0 : Int) (a1 : Int) (a2 : Int) : Bool := (cond (decide (a0 ≥ a1)) (decide (a0 ≤ a2)) false)
noncomputable abbrev e_iinRange (r : Bool) : AV × List AObj := ((.t true .bool r), [])
noncomputable abbrev g_iinRange : pshsDen P_iinRange → AV × List AObj := fun d => e_iinRange (iinRange d.1 d.2.1 d.2.2.1)
noncomputable abbrev pre_iinRange : pshsDen P_iinRange → Bool := fun d => true
theorem runA_iinRange (a0 : Int) (a1 : Int) (a2 : Int) : runP true Try.prog tt S30 QF30 (fun _ _ => none) Try.f47 (argsMk P_iinRange (a0, (a1, (a2, ())))) = some (g_iinRange (a0, (a1, (a2, ())))) := by
  refine Eq.trans (b := (cond (decide (a0 ≥ a1)) (some (e_iinRange (decide (a0 ≤ a2)))) (some (e_iinRange false)))) (by kernel_rfl) ?_
  exact (cnd (F := fun r => some (e_iinRange r)) (fun _h => rfl) (fun _h => rfl))
theorem run_iinRange : ∀ d, pre_iinRange d = true → runP true Try.prog tt S30 QF30 (fun _ _ => none) Try.f47 (argsMk P_iinRange d) = some (g_iinRange d) := fun d hp => runA_iinRange d.1 d.2.1 d.2.2.1
theorem c_iinRange : PContract Try.prog 47 (sumOf P_iinRange pre_iinRange g_iinRange) := PContract.of_data true G30 (fn := Try.f47) (by kernel_rfl) (L := fun _ _ => none) (by rw [show loopsIn 0 (bodyOf Try.f47) = [] by kernel_rfl]; simp) P_iinRange pre_iinRange g_iinRange run_iinRange
noncomputable def S31 : Tab := Tab.add S30 47 (lift (sumOf P_iinRange pre_iinRange g_iinRange))
noncomputable def QF31 : FuncId → Bool := qadd QF30 47
theorem G31 : Good Try.prog tt S31 QF31 := G30.addQ c_iinRange ⟨Try.f47, by kernel_rfl, by kernel_rfl, by kernel_rfl⟩ (fun _ => rfl)


end Go.Proofs.Ytapikgcgahomlaa.Eng
