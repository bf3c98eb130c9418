/- What the functions that FnExactShardsOf reaches compute, and that it answers true. -/
import Derived.Test.YtoddiofedjnapaaT
import Derived.Test.YtoddiofedjnapaaRows
import Derived.Test.YtoddiofedjnapaaE39
import Derived.Shelf.Sort.Plain
import Derived.Shelf.Slices.In.SortNone
import Derived.Shelf.Slices.CompactI
namespace Go.Proofs.Ytoddiofedjnapaa.Eng
open Go Go.RowKit
set_option linter.unusedSimpArgs false
set_option linter.unusedVariables false
set_option maxRecDepth 10000
noncomputable def S0 : Tab := fun _ => none
noncomputable def QF0 : FuncId → Bool := fun _ => false
theorem G0 : Good Try.prog tt S0 QF0 := Good.start tt_ok (by kernel_rfl)
/-! Plain laws: order of bytes, keys, ops. -/
theorem bytesLess_irrefl : ∀ a : List UInt8, Op.bytesLess a a = false := by
  intro a
  induction a with
  | nil => rfl
  | cons x a ih => simp only [Op.bytesLess, ih, Bool.and_false, Bool.or_false, decide_eq_false_iff_not]; exact UInt8.lt_irrefl x
theorem bytesLess_ge : ∀ a b : List UInt8, (!(Op.bytesLess a b)) = (Op.bytesLess b a || b == a) := by
  intro a
  induction a with
  | nil => intro b; cases b <;> simp [Op.bytesLess]
  | cons x a ih =>
    intro b
    cases b with
    | nil => simp [Op.bytesLess]
    | cons y b =>
      simp only [Op.bytesLess]
      by_cases h1 : x < y
      · have h2 : ¬ y < x := fun h => UInt8.lt_irrefl _ (UInt8.lt_trans h1 h)
        have h3 : (y == x) = false := by rw [beq_eq_false_iff_ne]; intro h; subst h; exact h2 h1
        have h4 : (y :: b == x :: a) = false := by rw [List.cons_beq_cons, h3, Bool.false_and]
        simp [h1, h2, h3, h4]
      · by_cases h5 : x = y
        · subst h5
          have h6 : (x :: b == x :: a) = (b == a) := by rw [List.cons_beq_cons]; simp
          have := ih b
          simp only [h1, decide_false, Bool.false_or, beq_self_eq_true, Bool.true_and, h6, this]
        · have h7 : y < x := by
            rcases Nat.lt_trichotomy x.toNat y.toNat with h | h | h
            · exact absurd (UInt8.lt_iff_toNat_lt.2 h) h1
            · exact absurd (UInt8.toNat_inj.1 h) h5
            · exact UInt8.lt_iff_toNat_lt.2 h
          have h8 : (x == y) = false := by rw [beq_eq_false_iff_ne]; exact h5
          simp [h1, h7, h8]
theorem allF_congr {p q : Nat → Bool} : ∀ k i, (∀ j, i ≤ j → j < i + k → p j = q j) → allF p k i = allF q k i := by
  intro k
  induction k with
  | zero => intro i h; rfl
  | succ k ih => intro i h; simp only [allF]; rw [h i (Nat.le_refl _) (by omega), ih (i + 1) (fun j h1 h2 => h j (by omega) (by omega))]
theorem allF_same {p : Nat → Bool} (k i : Nat) (h : ∀ j, i ≤ j → j < i + k → p j = true) : allF p k i = true := (allF_true k i).2 h
theorem szN_all {f : Nat → Int → Int} {Q : Nat → Prop} {M : Int} : ∀ (k i : Nat) (b : Int), (∀ j b, i ≤ j → j < i + k → 0 ≤ b → b ≤ M → 0 ≤ f j b → Q j ∧ f j b ≤ b) → 0 ≤ b → b ≤ M → isInl (szN f k i b) = true →
    (∀ j, i ≤ j → j < i + k → Q j) ∧ 0 ≤ getInl (-1) (szN f k i b) ∧ getInl (-1) (szN f k i b) ≤ b := by
  intro k
  induction k with
  | zero => intro i b hf h1 h2 h3; exact ⟨fun j hj hk => by omega, h1, Int.le_refl _⟩
  | succ k ih =>
    intro i b hf h1 h2 h3
    have e : szN f (k + 1) i b = cond (decide (f i b < 0)) (.inr ()) (szN f k (i + 1) (f i b)) := by
      simp only [szN, loopN]
      cases decide (f i b < 0) <;> rfl
    rw [e] at h3 ⊢
    cases hd : decide (f i b < 0) with
    | true => rw [hd] at h3; cases h3
    | false =>
      rw [hd] at h3
      simp only [cond_false] at h3 ⊢
      have h0 : 0 ≤ f i b := by have := of_decide_eq_false hd; omega
      obtain ⟨q1, q2⟩ := hf i b (Nat.le_refl _) (by omega) h1 h2 h0
      obtain ⟨r1, r2, r3⟩ := ih (i + 1) (f i b) (fun j b hj hk => hf j b (by omega) (by omega)) h0 (by omega) h3
      refine ⟨fun j hj hk => ?_, r2, by omega⟩
      by_cases ej : j = i
      · exact ej ▸ q1
      · exact r1 j (by omega) (by omega)
noncomputable abbrev OpT : Type := Int × ByteArray × ByteArray
noncomputable def dOp : Int × ByteArray × ByteArray := ((0 : Int), ((⟨#[]⟩ : ByteArray), (⟨#[]⟩ : ByteArray)))
noncomputable def okOp (o : Int × ByteArray × ByteArray) : Bool := okS o.2.1 && okS o.2.2
noncomputable def okOps (l : List (Int × ByteArray × ByteArray)) : Bool := okL l && l.all okOp
theorem okOps_at {l : List (Int × ByteArray × ByteArray)} (h : okOps l = true) (i : Nat) (hi : i < l.length) : okS (l.getD i dOp).2.1 = true ∧ okS (l.getD i dOp).2.2 = true := by
  simp only [okOps, Bool.and_eq_true, List.all_eq_true] at h
  have := h.2 (l.getD i dOp) (by simp [List.getD_eq_getElem?_getD, hi])
  simpa [okOp] using this
theorem okOps_len {l : List (Int × ByteArray × ByteArray)} (h : okOps l = true) : l.length ≤ 1048576 := by
  simp only [okOps, Bool.and_eq_true] at h
  exact okL_le h.1
noncomputable def bigS (s : ByteArray) : Bool := decide (s.size ≤ 9223372036854775807)
noncomputable def bigOps (l : List (Int × ByteArray × ByteArray)) : Bool := decide (l.length ≤ 9223372036854775807) && l.all (fun o => bigS o.2.1 && bigS o.2.2)
theorem bigOps_at {l : List (Int × ByteArray × ByteArray)} (h : bigOps l = true) (i : Nat) (hi : i < l.length) : bigS (l.getD i dOp).2.1 = true ∧ bigS (l.getD i dOp).2.2 = true := by
  simp only [bigOps, Bool.and_eq_true, List.all_eq_true] at h
  exact h.2 (l.getD i dOp) (by simp [List.getD_eq_getElem?_getD, hi])
theorem okOps_of {l : List (Int × ByteArray × ByteArray)} (h1 : l.length ≤ 1048576) (h2 : ∀ i, i < l.length → okS (l.getD i dOp).2.1 = true ∧ okS (l.getD i dOp).2.2 = true) : okOps l = true := by
  simp only [okOps, okL, Bool.and_eq_true, decide_eq_true_eq, List.all_eq_true]
  refine ⟨h1, fun o ho => ?_⟩
  obtain ⟨i, hi, rfl⟩ := List.getElem_of_mem ho
  have := h2 i hi
  simp only [List.getD_eq_getElem?_getD, List.getElem?_eq_getElem hi, Option.getD_some] at this
  simp [okOp, this.1, this.2]
theorem ba_beq (a b : ByteArray) : (a.toList == b.toList) = decide (a = b) := by
  rw [ByteArray.toList_eq, ByteArray.toList_eq]
  by_cases h : a = b
  · subst h; simp
  · rw [decide_eq_false h, beq_eq_false_iff_ne]
    intro e
    exact h (by cases a; cases b; simp at e; rw [e])
theorem bigOps_len {l : List (Int × ByteArray × ByteArray)} (h : bigOps l = true) : l.length ≤ 9223372036854775807 := by
  simp only [bigOps, Bool.and_eq_true, decide_eq_true_eq] at h; exact h.1
theorem okOps_okL {l : List (Int × ByteArray × ByteArray)} (h : okOps l = true) : okL l = true := by
  simp only [okOps, Bool.and_eq_true] at h; exact h.1
theorem bigOps_of {l : List (Int × ByteArray × ByteArray)} (h : bigT (.sl (.pair (.int .i64) (.pair .str .str))) l = true) : bigOps l = true := by
  have h : (decide (l.length ≤ maxLen) && l.all fun o => (Lit.int .i64 o.1).wf && (decide (o.2.1.size ≤ maxLen) && decide (o.2.2.size ≤ maxLen))) = true := h
  have hm : maxLen = 9223372036854775807 := by decide
  rw [hm] at h
  simp only [Bool.and_eq_true, decide_eq_true_eq, List.all_eq_true] at h
  simp only [bigOps, bigS, Bool.and_eq_true, decide_eq_true_eq, List.all_eq_true]
  exact ⟨h.1, fun o ho => (h.2 o ho).2⟩
theorem bigRec_ops {k t : Int} {l : List (Int × ByteArray × ByteArray)} (h : bigT (.pair (.int .i64) (.pair (.int .i64) (.sl (.pair (.int .i64) (.pair .str .str))))) (k, (t, l)) = true) : bigOps l = true := by
  have hb : ((Lit.int .i64 k).wf && ((Lit.int .i64 t).wf && bigT (.sl (.pair (.int .i64) (.pair .str .str))) l)) = true := h
  rw [Bool.and_eq_true, Bool.and_eq_true] at hb
  exact bigOps_of hb.2.2
/-- The high groups of a number, and what is left. -/
noncomputable def hiF (g : Int → Int) : Nat → Int → List Int × Int
  | 0, x => ([], x)
  | k + 1, x => cond (decide (x > 127)) (g x :: (hiF g k (Int.fdiv x (2 ^ 7))).1, (hiF g k (Int.fdiv x (2 ^ 7))).2) ([], x)
theorem fdiv128 (x : Int) : Int.fdiv x (2 ^ 7) = x / 128 := by
  rw [show (2 : Int) ^ 7 = 128 from rfl, Int.fdiv_eq_ediv_of_nonneg _ (by decide)]
theorem hiF_small (g : Int → Int) (k : Nat) : ∀ x : Int, 0 ≤ x → x < 128 ^ (k + 1) → 0 ≤ (hiF g k x).2 ∧ (hiF g k x).2 ≤ 127 := by
  induction k with
  | zero => intro x h0 h1; simp only [hiF]; exact ⟨h0, by rw [show (128 : Int) ^ (0 + 1) = 128 from rfl] at h1; omega⟩
  | succ k ih =>
    intro x h0 h1
    simp only [hiF]
    by_cases hx : x > 127
    · simp only [decide_eq_true hx, cond_true, fdiv128]
      rw [Int.pow_succ] at h1
      exact ih (x / 128) (by omega) (by omega)
    · simp only [decide_eq_false hx, cond_false]
      exact ⟨h0, by omega⟩
theorem hiF_len (g : Int → Int) (k : Nat) : ∀ x : Int, (hiF g k x).1.length ≤ k := by
  induction k with
  | zero => intro x; simp [hiF]
  | succ k ih =>
    intro x
    simp only [hiF]
    cases decide (x > 127) with
    | true => simp; exact ih _
    | false => simp
noncomputable def gNum (x : Int) : Int := IntKind.wrap .u8 (ior .i64 (iand .i64 x (127 : Int)) (128 : Int))
noncomputable def gNum' (x : Int) : Int := IntKind.wrap .u8 (ior .i64 (128 : Int) (iand .i64 x (127 : Int)))
theorem gNum_same : gNum' = gNum := by
  funext x
  simp only [gNum, gNum', ior]
  rw [BitVec.or_comm]
theorem nX_is : ∃ f : Int → List Int × Int, ∀ x, f x = hiF gNum 4 x := ⟨_, fun _ => rfl⟩
/-- The same, not to be unfolded. -/
noncomputable def nX : Int → List Int × Int := Classical.choose nX_is
theorem nX_eq (x : Int) : nX x = hiF gNum 4 x := Classical.choose_spec nX_is x
theorem nX_eq' (x : Int) : nX x = hiF gNum' 4 x := by rw [gNum_same]; exact nX_eq x
theorem nX_len (x : Int) : (nX x).1.length ≤ 4 := by rw [nX_eq]; exact hiF_len gNum 4 x
/-- The bytes of a number. -/
noncomputable def numB (x : Int) : List Int := (nX x).1 ++ [IntKind.wrap .u8 (nX x).2]
theorem numB_len (x : Int) : (numB x).length ≤ 5 := by
  have := nX_len x
  simp [numB]; omega
noncomputable def clampN (n : Int) : Int := if n > 1000000000 then 1000000000 else if n < 0 then 0 else n
noncomputable def textB (s : ByteArray) : List Int := numB (s.size : Int) ++ strInts s
noncomputable def opB (o : Int × ByteArray × ByteArray) : List Int := numB (clampN o.1) ++ (textB o.2.1 ++ textB o.2.2)
theorem clampN_of {n : Int} (h0 : 0 ≤ n) (h1 : n ≤ 1000000000) : clampN n = n := by simp only [clampN]; split <;> (try split) <;> omega
theorem strInts_len (s : ByteArray) : (strInts s).length = s.size := by rw [strInts, List.length_map, Array.length_toList]; rfl
theorem textB_len (s : ByteArray) : (textB s).length ≤ 5 + s.size := by
  have := numB_len (s.size : Int)
  simp [textB, strInts_len]; omega

noncomputable def clampI (x : Int) : Int := if (if (1000000000 : Int) < x then (1000000000 : Int) else x) > (0 : Int) then (if (1000000000 : Int) < x then (1000000000 : Int) else x) else (0 : Int)
theorem clampI_eq (x : Int) : clampI x = clampN x := by
  simp only [clampI, clampN]
  split <;> split <;> (try split) <;> omega
theorem clampN_range (x : Int) : 0 ≤ clampN x ∧ clampN x ≤ 1000000000 := by
  simp only [clampN]
  split <;> (try split) <;> omega
theorem clampI_range (x : Int) : 0 ≤ clampI x ∧ clampI x ≤ 1000000000 := by rw [clampI_eq]; exact clampN_range x

noncomputable def digB (x : Int) : ByteArray := (⟨([IntKind.wrap .u8 (IntKind.wrap .i64 ((48 : Int) + (Int.tmod x (10 : Int))))].map fun n => UInt8.ofNat n.toNat).toArray⟩ : ByteArray)
theorem digB_size (x : Int) : (digB x).size = 1 := rfl
/-- A number's digits. -/
noncomputable def txtN : Nat → Int → ByteArray → ByteArray
  | 0, _, s => s
  | k + 1, x, s => cond (decide (x > 0)) (txtN k (IntKind.wrap .i64 (Int.tdiv x (10 : Int))) (digB x ++ s)) s
theorem txtN_len : ∀ (k : Nat) (x : Int) (s : ByteArray), (txtN k x s).size ≤ k + s.size := by
  intro k
  induction k with
  | zero => intro x s; simp [txtN]
  | succ k ih =>
    intro x s
    simp only [txtN]
    cases decide (x > 0) with
    | true =>
      have := ih (IntKind.wrap .i64 (Int.tdiv x (10 : Int))) (digB x ++ s)
      rw [ByteArray.size_append, digB_size] at this
      simp only [cond_true]; omega
    | false => simp only [cond_false]; omega
theorem foldN_app {α : Type} (f : α → List Int) (d : α) (l : List α) (g : Nat → List Int → List Int) (hg : ∀ i h, i < l.length → g i h = h ++ f (l.getD i d)) : ∀ k i h, i + k = l.length → foldN g k i h = h ++ ((l.drop i).map f).flatten := by
  intro k
  induction k with
  | zero =>
    intro i h hi
    have : l.drop i = [] := List.drop_eq_nil_of_le (by omega)
    simp [foldN, this]
  | succ k ih =>
    intro i h hi
    have hlt : i < l.length := by omega
    simp only [foldN]
    rw [ih (i + 1) (g i h) (by omega), hg i h hlt, List.append_assoc, show l.drop i = l[i] :: l.drop (i + 1) from List.drop_eq_getElem_cons hlt, List.map_cons, List.flatten_cons, show l.getD i d = l[i] from by simp [List.getD_eq_getElem?_getD, hlt]]
theorem opB_len (o : Int × ByteArray × ByteArray) : (opB o).length ≤ 15 + o.2.1.size + o.2.2.size := by
  have h1 := numB_len (clampN o.1)
  have h2 := textB_len o.2.1
  have h3 := textB_len o.2.2
  simp only [opB, List.length_append]; omega
theorem flat_len {M : Nat} : ∀ l : List (Int × ByteArray × ByteArray), (∀ o ∈ l, (opB o).length ≤ M) → (l.map opB).flatten.length ≤ M * l.length := by
  intro l
  induction l with
  | nil => intro _; simp
  | cons o l ih =>
    intro h
    have h1 := h o (by simp)
    have h2 := ih fun x hx => h x (by simp [hx])
    simp only [List.map_cons, List.flatten_cons, List.length_append, List.length_cons]
    rw [Nat.mul_add]; omega
theorem okOps_mem {l : List (Int × ByteArray × ByteArray)} (h : okOps l = true) : ∀ o ∈ l, o.2.1.size ≤ 1048576 ∧ o.2.2.size ≤ 1048576 := by
  intro o ho
  simp only [okOps, Bool.and_eq_true, List.all_eq_true] at h
  have := h.2 o ho
  simpa [okOp, okS] using this
/-! The library's sort and compacting, found in this translation. -/
noncomputable def laysSort_ren : Go.Shelf.Ren := ⟨fun | 189 => 131 | 125 => 158 | 257 => 157 | 128 => 174 | 129 => 175 | 294 => 165 | 295 => 166 | 296 => 167 | 297 => 168 | 298 => 169 | 299 => 170 | 216 => 171 | 300 => 172 | 301 => 173 | 328 => 178 | 329 => 179 | 330 => 180 | 331 => 181 | 332 => 182 | 215 => 183 | 343 => 185 | n => n, fun | 28 => 92 | 3 => 3 | 46 => 154 | 0 => 0 | 51 => 172 | 53 => 186 | 4 => 4 | 183 => 177 | 182 => 176 | 131 => 182 | 5 => 5 | 9 => 9 | 218 => 188 | 222 => 192 | 228 => 195 | 229 => 196 | n => n, fun n => n⟩
theorem laysSort : Go.Proofs.Lays.n189 Try.prog laysSort_ren where
  mixed := by kernel_rfl
  f125 := Try.func158.trans (congrArg some (by kernel_rfl))
  f128 := Try.func174.trans (congrArg some (by kernel_rfl))
  f129 := Try.func175.trans (congrArg some (by kernel_rfl))
  f189 := Try.func131.trans (congrArg some (by kernel_rfl))
  f215 := Try.func183.trans (congrArg some (by kernel_rfl))
  f216 := Try.func171.trans (congrArg some (by kernel_rfl))
  f257 := Try.func157.trans (congrArg some (by kernel_rfl))
  f294 := Try.func165.trans (congrArg some (by kernel_rfl))
  f295 := Try.func166.trans (congrArg some (by kernel_rfl))
  f296 := Try.func167.trans (congrArg some (by kernel_rfl))
  f297 := Try.func168.trans (congrArg some (by kernel_rfl))
  f298 := Try.func169.trans (congrArg some (by kernel_rfl))
  f299 := Try.func170.trans (congrArg some (by kernel_rfl))
  f300 := Try.func172.trans (congrArg some (by kernel_rfl))
  f301 := Try.func173.trans (congrArg some (by kernel_rfl))
  f328 := Try.func178.trans (congrArg some (by kernel_rfl))
  f329 := Try.func179.trans (congrArg some (by kernel_rfl))
  f330 := Try.func180.trans (congrArg some (by kernel_rfl))
  f331 := Try.func181.trans (congrArg some (by kernel_rfl))
  f332 := Try.func182.trans (congrArg some (by kernel_rfl))
  f343 := Try.func185.trans (congrArg some (by kernel_rfl))
  t0 := Try.underlying0
  a0 := Try.isAgg0
  z0 := Try.sizeOf0
  v0 := Try.zeroValue0
  t3 := Try.underlying3
  a3 := Try.isAgg3
  z3 := Try.sizeOf3
  v3 := Try.zeroValue3
  t4 := Try.underlying4
  a4 := Try.isAgg4
  z4 := Try.sizeOf4
  v4 := Try.zeroValue4
  t5 := Try.underlying5
  a5 := Try.isAgg5
  z5 := Try.sizeOf5
  v5 := Try.zeroValue5
  t9 := Try.underlying9
  a9 := Try.isAgg9
  z9 := Try.sizeOf9
  v9 := Try.zeroValue9
  t28 := Try.underlying92
  a28 := Try.isAgg92
  z28 := Try.sizeOf92
  v28 := Try.zeroValue92
  t46 := Try.underlying154
  a46 := Try.isAgg154
  z46 := Try.sizeOf154
  v46 := Try.zeroValue154
  t51 := Try.underlying172
  a51 := Try.isAgg172
  z51 := Try.sizeOf172
  v51 := Try.zeroValue172
  t53 := Try.underlying186
  a53 := Try.isAgg186
  z53 := Try.sizeOf186
  v53 := Try.zeroValue186
  t131 := Try.underlying182
  a131 := Try.isAgg182
  z131 := Try.sizeOf182
  v131 := Try.zeroValue182
  t182 := Try.underlying176
  a182 := Try.isAgg176
  z182 := Try.sizeOf176
  v182 := Try.zeroValue176
  t183 := Try.underlying177
  a183 := Try.isAgg177
  z183 := Try.sizeOf177
  v183 := Try.zeroValue177
  t218 := Try.underlying188
  a218 := Try.isAgg188
  z218 := Try.sizeOf188
  v218 := Try.zeroValue188
  t222 := Try.underlying192
  a222 := Try.isAgg192
  z222 := Try.sizeOf192
  v222 := Try.zeroValue192
  t228 := Try.underlying195
  a228 := Try.isAgg195
  z228 := Try.sizeOf195
  v228 := Try.zeroValue195
  t229 := Try.underlying196
  a229 := Try.isAgg196
  z229 := Try.sizeOf196
  v229 := Try.zeroValue196
noncomputable def laysCompact_ren : Go.Shelf.Ren := ⟨fun | 20 => 133 | n => n, fun | 22 => 92 | 3 => 3 | 4 => 4 | 0 => 0 | n => n, fun n => n⟩
theorem laysCompact : Go.Proofs.Lays2.n20 Try.prog laysCompact_ren where
  mixed := by kernel_rfl
  f20 := Try.func133.trans (congrArg some (by kernel_rfl))
  t0 := Try.underlying0
  a0 := Try.isAgg0
  z0 := Try.sizeOf0
  v0 := Try.zeroValue0
  t3 := Try.underlying3
  a3 := Try.isAgg3
  z3 := Try.sizeOf3
  v3 := Try.zeroValue3
  t4 := Try.underlying4
  a4 := Try.isAgg4
  z4 := Try.sizeOf4
  v4 := Try.zeroValue4
  t22 := Try.underlying92
  a22 := Try.isAgg92
  z22 := Try.sizeOf92
  v22 := Try.zeroValue92
  i3 := by kernel_rfl
theorem c_sortInt : MContract Try.prog 131 (win winIds sortSum) := (MContract.sortInt (Go.Proofs.Any.slices_Sort_int_none laysSort) (Go.Proofs.Any.slices_Sort_int laysSort)).win winIds
theorem c_compactInt : MContract Try.prog 133 (win winIds compactSum) := (MContract.compactInt (Go.Proofs.Any.slices_Compact_int_empty laysCompact) (Go.Proofs.Any.slices_Compact_int laysCompact)).win winIds
noncomputable def q_sortL (l : List Int) : Bool := decide (l.length < 4611686018427387904)
noncomputable def compactP (l : List Int) : Nat × List Int := ((Lib.compact l).length, Lib.compact l ++ List.replicate (l.length - (Lib.compact l).length) 0)

/-! 102 loop.example/g00244/laws.szOp -/
noncomputable abbrev P_lszOp : List PSh := [.agg [(.int .i64), .str, .str], .t (.int .i64)]
noncomputable def lszOp (a0 : Int) (a1 : ByteArray) (a2 : ByteArray) (a3 : Int) : Int := (cond (decide ((IntKind.wrap .i64 (a3 - ((a1.size : Nat) : Int))) < (0 : Int))) (-1 : Int) (cond (decide ((IntKind.wrap .i64 ((IntKind.wrap .i64 (a3 - ((a1.size : Nat) : Int))) - ((a2.size : Nat) : Int))) < (0 : Int))) (-1 : Int) (IntKind.wrap .i64 ((IntKind.wrap .i64 (a3 - ((a1.size : Nat) : Int))) - ((a2.size : Nat) : Int)))))
noncomputable abbrev e_lszOp (r : Int) : AV × List AObj := ((.t true (.int .i64) r), [])
noncomputable abbrev g_lszOp : pshsDen P_lszOp → AV × List AObj := fun d => e_lszOp (lszOp d.1.1 d.1.2.1 d.1.2.2.1 d.2.1)
noncomputable abbrev pre_lszOp : pshsDen P_lszOp → Bool := fun d => true
theorem runA_lszOp (a0 : Int) (a1 : ByteArray) (a2 : ByteArray) (a3 : Int) : runP true Try.prog tt S0 QF0 (fun _ _ => none) Try.f102 (argsMk P_lszOp ((a0, (a1, (a2, ()))), (a3, ()))) = some (g_lszOp ((a0, (a1, (a2, ()))), (a3, ()))) := by
  refine Eq.trans (b := (cond (decide ((IntKind.wrap .i64 (a3 - ((a1.size : Nat) : Int))) < (0 : Int))) (some (e_lszOp (-1 : Int))) (cond (decide ((IntKind.wrap .i64 ((IntKind.wrap .i64 (a3 - ((a1.size : Nat) : Int))) - ((a2.size : Nat) : Int))) < (0 : Int))) (some (e_lszOp (-1 : Int))) (some (e_lszOp (IntKind.wrap .i64 ((IntKind.wrap .i64 (a3 - ((a1.size : Nat) : Int))) - ((a2.size : Nat) : Int)))))))) (by kernel_rfl) ?_
  exact (cnd (F := fun r => some (e_lszOp r)) (fun _h => rfl) (fun _h => (cnd (F := fun r => some (e_lszOp r)) (fun _h => rfl) (fun _h => rfl))))
theorem run_lszOp : ∀ d, pre_lszOp d = true → runP true Try.prog tt S0 QF0 (fun _ _ => none) Try.f102 (argsMk P_lszOp d) = some (g_lszOp d) := fun d hp => runA_lszOp d.1.1 d.1.2.1 d.1.2.2.1 d.2.1
theorem c_lszOp : PContract Try.prog 102 (sumOf P_lszOp pre_lszOp g_lszOp) := PContract.of_data true G0 (fn := Try.f102) (by kernel_rfl) (L := fun _ _ => none) (by rw [show loopsIn 0 (bodyOf Try.f102) = [] by kernel_rfl]; simp) P_lszOp pre_lszOp g_lszOp run_lszOp
noncomputable def S1 : Tab := Tab.add S0 102 (lift (sumOf P_lszOp pre_lszOp g_lszOp))
noncomputable def QF1 : FuncId → Bool := qadd QF0 102
theorem G1 : Good Try.prog tt S1 QF1 := G0.addQ c_lszOp ⟨Try.f102, by kernel_rfl, by kernel_rfl, by kernel_rfl⟩ (fun _ => rfl)

/-! 42 loop.example/g00244/laws.szOpS -/
noncomputable def f_lszOpS_0 (x0 : List (Int × ByteArray × ByteArray)) (i : Nat) (b : Int) : Int := (lszOp ((x0.getD i ((0 : Int), ((⟨#[]⟩ : ByteArray), (⟨#[]⟩ : ByteArray)))).1) (((x0.getD i ((0 : Int), ((⟨#[]⟩ : ByteArray), (⟨#[]⟩ : ByteArray)))).2).1) (((x0.getD i ((0 : Int), ((⟨#[]⟩ : ByteArray), (⟨#[]⟩ : ByteArray)))).2).2) b)
noncomputable abbrev P_lszOpS : List PSh := [.t (.sl (.pair (.int .i64) (.pair .str .str))), .t (.int .i64)]
noncomputable abbrev S_lszOpS_0 : SS := ⟨[.t false (.sl (.pair (.int .i64) (.pair .str .str))), .t true (.int .i64), .junk, .junk, .junk, .t true (.int .i64), .junk, .junk, .junk, .junk, .junk, .junk, .junk, .junk, .junk, .junk, .junk, .junk, .junk, .junk, .junk, .junk, .junk, .junk, .junk, .junk, .junk], []⟩
noncomputable abbrev E_lszOpS_0_0 : SS := ⟨[.junk, .junk, .junk, .junk, .t true (.int .i64), .junk, .junk, .junk, .junk, .junk, .junk, .junk, .junk, .junk, .junk, .junk, .junk, .junk, .junk, .junk, .junk, .junk, .junk, .junk, .junk, .junk, .junk], []⟩
noncomputable abbrev E_lszOpS_0_1 : SS := ⟨[.junk, .t true (.int .i64), .junk, .junk, .junk, .junk, .junk, .junk, .junk, .junk, .junk, .junk, .junk, .junk, .junk, .junk, .junk, .junk, .junk, .junk, .junk, .junk, .junk, .junk, .junk, .junk, .junk], []⟩
noncomputable def st_lszOpS_0 (x0 : List (Int × ByteArray × ByteArray)) (x1 : Int) (x5 : Int) : RT S_lszOpS_0.den := (.br (decide (x5 < ((x0.length : Nat) : Int))) (.br (decide (0 ≤ x5 ∧ x5 < ((x0.length : Nat) : Int))) (.br (decide ((lszOp ((x0.getD x5.toNat ((0 : Int), ((⟨#[]⟩ : ByteArray), (⟨#[]⟩ : ByteArray)))).1) (((x0.getD x5.toNat ((0 : Int), ((⟨#[]⟩ : ByteArray), (⟨#[]⟩ : ByteArray)))).2).1) (((x0.getD x5.toNat ((0 : Int), ((⟨#[]⟩ : ByteArray), (⟨#[]⟩ : ByteArray)))).2).2) x1) < (0 : Int))) (.done .ret E_lszOpS_0_0 (((), (), (), (), (-1 : Int), (), (), (), (), (), (), (), (), (), (), (), (), (), (), (), (), (), (), (), (), (), (), ()), ())) (.next ((x0, (lszOp ((x0.getD x5.toNat ((0 : Int), ((⟨#[]⟩ : ByteArray), (⟨#[]⟩ : ByteArray)))).1) (((x0.getD x5.toNat ((0 : Int), ((⟨#[]⟩ : ByteArray), (⟨#[]⟩ : ByteArray)))).2).1) (((x0.getD x5.toNat ((0 : Int), ((⟨#[]⟩ : ByteArray), (⟨#[]⟩ : ByteArray)))).2).2) x1), (), (), (), IntKind.wrap .i64 (x5 + (1 : Int)), (), (), (), (), (), (), (), (), (), (), (), (), (), (), (), (), (), (), (), (), (), ()), ()))) .fail) (.done (.exit 0) E_lszOpS_0_1 (((), x1, (), (), (), (), (), (), (), (), (), (), (), (), (), (), (), (), (), (), (), (), (), (), (), (), (), ()), ())))
noncomputable def T_lszOpS_0 (x0 : List (Int × ByteArray × ByteArray)) (x1 : Int) (x5 : Int) : CT := (.br (decide (0 ≤ x5) && okL x0) (.br (isInl (szN (f_lszOpS_0 x0) (x0.length - x5.toNat) x5.toNat x1)) (.done (.exit 0) E_lszOpS_0_1 (((), (getInl (-1) (szN (f_lszOpS_0 x0) (x0.length - x5.toNat) x5.toNat x1)), (), (), (), (), (), (), (), (), (), (), (), (), (), (), (), (), (), (), (), (), (), (), (), (), (), ()), ())) (.done .ret E_lszOpS_0_0 (((), (), (), (), (-1 : Int), (), (), (), (), (), (), (), (), (), (), (), (), (), (), (), (), (), (), (), (), (), (), ()), ()))) .fail)
noncomputable abbrev sp_lszOpS_0 : S_lszOpS_0.den → RT S_lszOpS_0.den := fun d => st_lszOpS_0 d.1.1 d.1.2.1 d.1.2.2.2.2.2.1
noncomputable abbrev pk_lszOpS_0 (x0 : List (Int × ByteArray × ByteArray)) (x1 : Int) (x5 : Int) : S_lszOpS_0.den := ((x0, x1, (), (), (), x5, (), (), (), (), (), (), (), (), (), (), (), (), (), (), (), (), (), (), (), (), (), ()), ())
noncomputable def body_lszOpS_0 : Code := ((loopsIn 0 (bodyOf Try.f42)).getD 0 (0, .skip)).2
theorem R_lszOpS_0 (x0 : List (Int × ByteArray × ByteArray)) (x1 : Int) (x5 : Int) : (T_lszOpS_0 x0 x1 x5).val (D := S_lszOpS_0.den) = .fail ∨ Runs sp_lszOpS_0 (pk_lszOpS_0 x0 x1 x5) (T_lszOpS_0 x0 x1 x5).val := by
  cases hc : (decide (0 ≤ x5) && okL x0) with
  | false => left; simp only [T_lszOpS_0, CT.val, hc, cond_false]
  | true =>
    right
    simp only [T_lszOpS_0, CT.val, hc, cond_true]
    simp only [Bool.and_eq_true, decide_eq_true_eq] at hc
    obtain ⟨i, rfl⟩ := Int.eq_ofNat_of_zero_le hc.1
    have hs := okL_le hc.2
    simp only [Int.toNat_natCast]
    have h := Runs.loopN (step := sp_lszOpS_0) (fun j b => pk_lszOpS_0 x0 b (j : Int)) (fun _ _ => True) (x0.length) (fun i b => cond (decide (f_lszOpS_0 x0 i b < 0)) (.inr ()) (.inl (f_lszOpS_0 x0 i b)))
      (fin := fun b => ((.done (.exit 0) E_lszOpS_0_1 (((), b, (), (), (), (), (), (), (), (), (), (), (), (), (), (), (), (), (), (), (), (), (), (), (), (), (), ()), ())) : CT).val) (bad := fun _ => ((.done .ret E_lszOpS_0_0 (((), (), (), (), (-1 : Int), (), (), (), (), (), (), (), (), (), (), (), (), (), (), (), (), (), (), (), (), (), (), ()), ())) : CT).val)
      (fun i b hi _ => ?_) (fun i b hi _ => ?_) (x0.length - i) i x1 rfl trivial
    · simp only [szN]
      revert h
      cases loopN (fun i b => cond (decide (f_lszOpS_0 x0 i b < 0)) (.inr ()) (.inl (f_lszOpS_0 x0 i b))) (x0.length - i) i x1 with
      | inl b => exact id
      | inr c => exact id
    · 
      have h0a : decide ((i : Int) < ((x0.length : Nat) : Int)) = true := decide_eq_true (by omega)
      have h0b : decide (0 ≤ (i : Int) ∧ (i : Int) < ((x0.length : Nat) : Int)) = true := decide_eq_true (by omega)
      have e : (sp_lszOpS_0 (pk_lszOpS_0 x0 b (i : Int))).val = cond (decide (f_lszOpS_0 x0 i b < 0)) ((.done .ret E_lszOpS_0_0 (((), (), (), (), (-1 : Int), (), (), (), (), (), (), (), (), (), (), (), (), (), (), (), (), (), (), (), (), (), (), ()), ())) : CT).val (.next (pk_lszOpS_0 x0 (f_lszOpS_0 x0 i b) ((i + 1 : Nat) : Int))) := by
        simp only [sp_lszOpS_0, st_lszOpS_0, RT.val, h0a, h0b, cond_true, wrapS i (by omega), Int.toNat_natCast]
        rfl
      cases hr : decide (f_lszOpS_0 x0 i b < 0) with
      | true => exact .inr ⟨(), _, _, _, rfl, by rw [e, hr]; rfl, rfl, by simp⟩
      | false => exact .inl ⟨_, rfl, trivial, by rw [e, hr]; rfl⟩
    · have h1 : decide ((i : Int) < ((x0.length : Nat) : Int)) = false := decide_eq_false (by omega)
      exact ⟨by simp only [sp_lszOpS_0, st_lszOpS_0, RT.val, h1, cond_false]; rfl, _, _, _, rfl, by simp⟩
theorem rd_lszOpS_0 : ∀ d, execC Try.prog tt S1 QF1 (fun _ _ => none) 0 body_lszOpS_0 (S_lszOpS_0.st d 0 []) (fun e s' => some (e, S_lszOpS_0.cutE (kepts [4] [(0, [1])]) e s')) = (sp_lszOpS_0 d).opt 0 [] := by
  intro d
  kernel_rfl
noncomputable abbrev say_lszOpS_0 : St → Option Tree := S_lszOpS_0.say 0 [] [] (fun d => T_lszOpS_0 d.1.1 d.1.2.1 d.1.2.2.2.2.2.1)
theorem lw_lszOpS_0 : LoopWp Try.prog say_lszOpS_0 body_lszOpS_0 := SS.wp G1 (fun _ _ => none) (by rw [show loopsIn 0 body_lszOpS_0 = [] by kernel_rfl]; simp) S_lszOpS_0 0 [] (kepts [4] [(0, [1])]) [] sp_lszOpS_0 rd_lszOpS_0 _ (fun d => R_lszOpS_0 d.1.1 d.1.2.1 d.1.2.2.2.2.2.1)
noncomputable def lszOpS (a0 : List (Int × ByteArray × ByteArray)) (a1 : Int) : Int := (cond (decide ((IntKind.wrap .i64 (a1 - ((a0.length : Nat) : Int))) < (0 : Int))) (-1 : Int) (cond (isInl (szN (f_lszOpS_0 a0) (a0.length - (0 : Int).toNat) (0 : Int).toNat (IntKind.wrap .i64 (a1 - ((a0.length : Nat) : Int))))) (getInl (-1) (szN (f_lszOpS_0 a0) (a0.length - (0 : Int).toNat) (0 : Int).toNat (IntKind.wrap .i64 (a1 - ((a0.length : Nat) : Int))))) (-1 : Int)))
noncomputable abbrev e_lszOpS (r : Int) : AV × List AObj := ((.t true (.int .i64) r), [])
noncomputable abbrev g_lszOpS : pshsDen P_lszOpS → AV × List AObj := fun d => e_lszOpS (lszOpS d.1 d.2.1)
noncomputable def q_lszOpS (a0 : List (Int × ByteArray × ByteArray)) (a1 : Int) : Bool := decide (0 ≤ a1 ∧ a1 ≤ 1048576 ∧ a0.length ≤ 9223372036854775807)
noncomputable abbrev pre_lszOpS : pshsDen P_lszOpS → Bool := fun d => q_lszOpS d.1 d.2.1
theorem runA_lszOpS (a0 : List (Int × ByteArray × ByteArray)) (a1 : Int) (hp : (decide (0 ≤ a1 ∧ a1 ≤ 1048576 ∧ a0.length ≤ 9223372036854775807)) = true) : runP true Try.prog tt S1 QF1 (fun b => match b with | 0 => say_lszOpS_0 | _ => fun _ => none) Try.f42 (argsMk P_lszOpS (a0, (a1, ()))) = some (g_lszOpS (a0, (a1, ()))) := by
  refine Eq.trans (b := (cond (decide ((IntKind.wrap .i64 (a1 - ((a0.length : Nat) : Int))) < (0 : Int))) (some (e_lszOpS (-1 : Int))) (cond (decide (0 ≤ (0 : Int)) && okL a0) (cond (isInl (szN (f_lszOpS_0 a0) (a0.length - (0 : Int).toNat) (0 : Int).toNat (IntKind.wrap .i64 (a1 - ((a0.length : Nat) : Int))))) (some (e_lszOpS (getInl (-1) (szN (f_lszOpS_0 a0) (a0.length - (0 : Int).toNat) (0 : Int).toNat (IntKind.wrap .i64 (a1 - ((a0.length : Nat) : Int))))))) (some (e_lszOpS (-1 : Int)))) none))) (by kernel_rfl) ?_
  exact (cnd (F := fun r => some (e_lszOpS r)) (fun _h => rfl) (fun _h => (cndT (by simp only [decide_eq_true_eq, decide_eq_false_iff_not] at hp _h; have hw := wrap64 (n := a1 - ((a0.length : Nat) : Int)) (by omega) (by omega); rw [hw] at _h; simp [okL]; omega) (fun _h => (cnd (F := fun r => some (e_lszOpS r)) (fun _h => rfl) (fun _h => rfl))))))
theorem run_lszOpS : ∀ d, pre_lszOpS d = true → runP true Try.prog tt S1 QF1 (fun b => match b with | 0 => say_lszOpS_0 | _ => fun _ => none) Try.f42 (argsMk P_lszOpS d) = some (g_lszOpS d) := fun d hp => runA_lszOpS d.1 d.2.1 hp
theorem c_lszOpS : PContract Try.prog 42 (sumOf P_lszOpS pre_lszOpS g_lszOpS) := PContract.of_data true G1 (fn := Try.f42) (by kernel_rfl) (L := fun b => match b with | 0 => say_lszOpS_0 | _ => fun _ => none) (by rw [show loopsIn 0 (bodyOf Try.f42) = [(0, body_lszOpS_0)] by kernel_rfl]; intro p hp; simp only [List.mem_singleton] at hp; subst hp; exact lw_lszOpS_0) P_lszOpS pre_lszOpS g_lszOpS run_lszOpS
noncomputable def S2 : Tab := Tab.add S1 42 (lift (sumOf P_lszOpS pre_lszOpS g_lszOpS))
noncomputable def QF2 : FuncId → Bool := qadd QF1 42
theorem G2 : Good Try.prog tt S2 QF2 := G1.addQ c_lszOpS ⟨Try.f42, by kernel_rfl, by kernel_rfl, by kernel_rfl⟩ (fun _ => rfl)

/-! 106 loop.example/g00244/laws.toOp -/
noncomputable abbrev P_ltoOp : List PSh := [.agg [(.int .i64), .str, .str]]
noncomputable def ltoOp (a0 : Int) (a1 : ByteArray) (a2 : ByteArray) : Int × ByteArray × ByteArray := (a0, a1, a2)
noncomputable abbrev e_ltoOp (r : Int × ByteArray × ByteArray) : AV × List AObj := ((.agg [(.t true (.int .i64) r.1), (.t true .str r.2.1), (.t true .str r.2.2)]), [])
noncomputable abbrev g_ltoOp : pshsDen P_ltoOp → AV × List AObj := fun d => e_ltoOp (ltoOp d.1.1 d.1.2.1 d.1.2.2.1)
noncomputable abbrev pre_ltoOp : pshsDen P_ltoOp → Bool := fun d => true
theorem runA_ltoOp (a0 : Int) (a1 : ByteArray) (a2 : ByteArray) : runP true Try.prog tt S2 QF2 (fun _ _ => none) Try.f106 (argsMk P_ltoOp ((a0, (a1, (a2, ()))), ())) = some (g_ltoOp ((a0, (a1, (a2, ()))), ())) := by
  kernel_rfl
theorem run_ltoOp : ∀ d, pre_ltoOp d = true → runP true Try.prog tt S2 QF2 (fun _ _ => none) Try.f106 (argsMk P_ltoOp d) = some (g_ltoOp d) := fun d hp => runA_ltoOp d.1.1 d.1.2.1 d.1.2.2.1
theorem c_ltoOp : PContract Try.prog 106 (sumOf P_ltoOp pre_ltoOp g_ltoOp) := PContract.of_data true G2 (fn := Try.f106) (by kernel_rfl) (L := fun _ _ => none) (by rw [show loopsIn 0 (bodyOf Try.f106) = [] by kernel_rfl]; simp) P_ltoOp pre_ltoOp g_ltoOp run_ltoOp
noncomputable def S3 : Tab := Tab.add S2 106 (lift (sumOf P_ltoOp pre_ltoOp g_ltoOp))
noncomputable def QF3 : FuncId → Bool := qadd QF2 106
theorem G3 : Good Try.prog tt S3 QF3 := G2.addQ c_ltoOp ⟨Try.f106, by kernel_rfl, by kernel_rfl, by kernel_rfl⟩ (fun _ => rfl)

/-! 45 loop.example/g00244/laws.toOpS -/
noncomputable def f_ltoOpS_0 (x0 : List (Int × ByteArray × ByteArray)) (i : Nat) : Int × ByteArray × ByteArray := (((ltoOp ((x0.getD i ((0 : Int), ((⟨#[]⟩ : ByteArray), (⟨#[]⟩ : ByteArray)))).1) (((x0.getD i ((0 : Int), ((⟨#[]⟩ : ByteArray), (⟨#[]⟩ : ByteArray)))).2).1) (((x0.getD i ((0 : Int), ((⟨#[]⟩ : ByteArray), (⟨#[]⟩ : ByteArray)))).2).2)).1), (((ltoOp ((x0.getD i ((0 : Int), ((⟨#[]⟩ : ByteArray), (⟨#[]⟩ : ByteArray)))).1) (((x0.getD i ((0 : Int), ((⟨#[]⟩ : ByteArray), (⟨#[]⟩ : ByteArray)))).2).1) (((x0.getD i ((0 : Int), ((⟨#[]⟩ : ByteArray), (⟨#[]⟩ : ByteArray)))).2).2)).2.1), ((ltoOp ((x0.getD i ((0 : Int), ((⟨#[]⟩ : ByteArray), (⟨#[]⟩ : ByteArray)))).1) (((x0.getD i ((0 : Int), ((⟨#[]⟩ : ByteArray), (⟨#[]⟩ : ByteArray)))).2).1) (((x0.getD i ((0 : Int), ((⟨#[]⟩ : ByteArray), (⟨#[]⟩ : ByteArray)))).2).2)).2.2)))
noncomputable abbrev P_ltoOpS : List PSh := [.t (.sl (.pair (.int .i64) (.pair .str .str)))]
noncomputable abbrev S_ltoOpS_0 : SS := ⟨[.t false (.sl (.pair (.int .i64) (.pair .str .str))), .junk, .junk, .all 0 3, .t true (.int .i64), .junk, .junk, .junk, .junk, .junk, .junk, .junk, .junk, .junk, .junk, .junk, .junk, .junk, .junk, .junk, .junk, .junk, .junk], [.rows 85 true (.pair (.int .i64) (.pair .str .str))]⟩
noncomputable abbrev E_ltoOpS_0_0 : SS := ⟨[.junk, .junk, .junk, .all 0 3, .junk, .junk, .junk, .junk, .junk, .junk, .junk, .junk, .junk, .junk, .junk, .junk, .junk, .junk, .junk, .junk, .junk, .junk, .junk], [.rows 85 true (.pair (.int .i64) (.pair .str .str))]⟩
noncomputable def st_ltoOpS_0 (x0 : List (Int × ByteArray × ByteArray)) (x4 : Int) (h0 : List (Int × ByteArray × ByteArray)) : RT S_ltoOpS_0.den := (.br (decide (x4 < ((x0.length : Nat) : Int))) (.br (decide (0 ≤ x4 ∧ x4 < ((x0.length : Nat) : Int))) (.br (decide (0 ≤ x4 ∧ x4 < ((h0.length : Nat) : Int))) (.next ((x0, (), (), (), IntKind.wrap .i64 (x4 + (1 : Int)), (), (), (), (), (), (), (), (), (), (), (), (), (), (), (), (), (), (), ()), (h0.set x4.toNat (((ltoOp ((x0.getD x4.toNat ((0 : Int), ((⟨#[]⟩ : ByteArray), (⟨#[]⟩ : ByteArray)))).1) (((x0.getD x4.toNat ((0 : Int), ((⟨#[]⟩ : ByteArray), (⟨#[]⟩ : ByteArray)))).2).1) (((x0.getD x4.toNat ((0 : Int), ((⟨#[]⟩ : ByteArray), (⟨#[]⟩ : ByteArray)))).2).2)).1), (((ltoOp ((x0.getD x4.toNat ((0 : Int), ((⟨#[]⟩ : ByteArray), (⟨#[]⟩ : ByteArray)))).1) (((x0.getD x4.toNat ((0 : Int), ((⟨#[]⟩ : ByteArray), (⟨#[]⟩ : ByteArray)))).2).1) (((x0.getD x4.toNat ((0 : Int), ((⟨#[]⟩ : ByteArray), (⟨#[]⟩ : ByteArray)))).2).2)).2.1), ((ltoOp ((x0.getD x4.toNat ((0 : Int), ((⟨#[]⟩ : ByteArray), (⟨#[]⟩ : ByteArray)))).1) (((x0.getD x4.toNat ((0 : Int), ((⟨#[]⟩ : ByteArray), (⟨#[]⟩ : ByteArray)))).2).1) (((x0.getD x4.toNat ((0 : Int), ((⟨#[]⟩ : ByteArray), (⟨#[]⟩ : ByteArray)))).2).2)).2.2))), ()))) .fail) .fail) (.done (.exit 0) E_ltoOpS_0_0 (((), (), (), (), (), (), (), (), (), (), (), (), (), (), (), (), (), (), (), (), (), (), (), ()), (h0, ()))))
noncomputable def T_ltoOpS_0 (x0 : List (Int × ByteArray × ByteArray)) (x4 : Int) (h0 : List (Int × ByteArray × ByteArray)) : CT := (.br (decide (0 ≤ x4) && (decide (h0.length = x0.length) && okL x0)) (.done (.exit 0) E_ltoOpS_0_0 (((), (), (), (), (), (), (), (), (), (), (), (), (), (), (), (), (), (), (), (), (), (), (), ()), ((foldN (fun i h => h.set i (f_ltoOpS_0 x0 i)) (x0.length - x4.toNat) x4.toNat h0), ()))) .fail)
noncomputable abbrev sp_ltoOpS_0 : S_ltoOpS_0.den → RT S_ltoOpS_0.den := fun d => st_ltoOpS_0 d.1.1 d.1.2.2.2.2.1 d.2.1
noncomputable abbrev pk_ltoOpS_0 (x0 : List (Int × ByteArray × ByteArray)) (x4 : Int) (h0 : List (Int × ByteArray × ByteArray)) : S_ltoOpS_0.den := ((x0, (), (), (), x4, (), (), (), (), (), (), (), (), (), (), (), (), (), (), (), (), (), (), ()), (h0, ()))
noncomputable def body_ltoOpS_0 : Code := ((loopsIn 0 (bodyOf Try.f45)).getD 0 (0, .skip)).2
theorem R_ltoOpS_0 (x0 : List (Int × ByteArray × ByteArray)) (x4 : Int) (h0 : List (Int × ByteArray × ByteArray)) : (T_ltoOpS_0 x0 x4 h0).val (D := S_ltoOpS_0.den) = .fail ∨ Runs sp_ltoOpS_0 (pk_ltoOpS_0 x0 x4 h0) (T_ltoOpS_0 x0 x4 h0).val := by
  cases hc : (decide (0 ≤ x4) && (decide (h0.length = x0.length) && okL x0)) with
  | false => left; simp only [T_ltoOpS_0, CT.val, hc, cond_false]
  | true =>
    right
    simp only [T_ltoOpS_0, CT.val, hc, cond_true]
    simp only [Bool.and_eq_true, decide_eq_true_eq] at hc
    obtain ⟨i, rfl⟩ := Int.eq_ofNat_of_zero_le hc.1
    have hs := okL_le hc.2.2
    simp only [Int.toNat_natCast]
    refine Runs.foldN (step := sp_ltoOpS_0) (fun j b => pk_ltoOpS_0 x0 (j : Int) b) (fun _ b => b.length = x0.length) (x0.length) (fun i h => h.set i (f_ltoOpS_0 x0 i))
      (fin := fun b => ((.done (.exit 0) E_ltoOpS_0_0 (((), (), (), (), (), (), (), (), (), (), (), (), (), (), (), (), (), (), (), (), (), (), (), ()), (b, ()))) : CT).val) (fun i b hi hb => ⟨by simpa using hb, ?_⟩) (fun i b hi hb => ?_) (x0.length - i) i h0 rfl hc.2.1
    · 
      have h0a : decide ((i : Int) < ((x0.length : Nat) : Int)) = true := decide_eq_true (by omega)
      have h0b : decide (0 ≤ (i : Int) ∧ (i : Int) < ((x0.length : Nat) : Int)) = true := decide_eq_true (by omega)
      have h9 : decide (0 ≤ (i : Int) ∧ (i : Int) < ((b.length : Nat) : Int)) = true := decide_eq_true (by omega)
      simp only [sp_ltoOpS_0, st_ltoOpS_0, RT.val, h0a, h0b, h9, cond_true, wrapS i (by omega), Int.toNat_natCast]
      rfl
    · have h1 : decide ((i : Int) < ((x0.length : Nat) : Int)) = false := decide_eq_false (by omega)
      exact ⟨by simp only [sp_ltoOpS_0, st_ltoOpS_0, RT.val, h1, cond_false]; rfl, _, _, _, rfl, by simp⟩
theorem rd_ltoOpS_0 : ∀ d, execC Try.prog tt S3 QF3 (fun _ _ => none) 0 body_ltoOpS_0 (S_ltoOpS_0.st d 0 []) (fun e s' => some (e, S_ltoOpS_0.cutE (kepts [] [(0, [3])]) e s')) = (sp_ltoOpS_0 d).opt 0 [] := by
  intro d
  kernel_rfl
noncomputable abbrev say_ltoOpS_0 : St → Option Tree := S_ltoOpS_0.say 0 [] [] (fun d => T_ltoOpS_0 d.1.1 d.1.2.2.2.2.1 d.2.1)
theorem lw_ltoOpS_0 : LoopWp Try.prog say_ltoOpS_0 body_ltoOpS_0 := SS.wp G3 (fun _ _ => none) (by rw [show loopsIn 0 body_ltoOpS_0 = [] by kernel_rfl]; simp) S_ltoOpS_0 0 [] (kepts [] [(0, [3])]) [] sp_ltoOpS_0 rd_ltoOpS_0 _ (fun d => R_ltoOpS_0 d.1.1 d.1.2.2.2.2.1 d.2.1)
noncomputable def ltoOpS (a0 : List (Int × ByteArray × ByteArray)) : List (Int × ByteArray × ByteArray) := (foldN (fun i h => h.set i (f_ltoOpS_0 a0 i)) (a0.length - (0 : Int).toNat) (0 : Int).toNat (List.replicate ((a0.length : Nat) : Int).toNat ((0 : Int), ((⟨#[]⟩ : ByteArray), (⟨#[]⟩ : ByteArray)))))
noncomputable abbrev e_ltoOpS (r : List (Int × ByteArray × ByteArray)) : AV × List AObj := ((.all 0 3), [(.rows 85 true (.pair (.int .i64) (.pair .str .str)) r)])
noncomputable abbrev g_ltoOpS : pshsDen P_ltoOpS → AV × List AObj := fun d => e_ltoOpS (ltoOpS d.1)
noncomputable def q_ltoOpS (a0 : List (Int × ByteArray × ByteArray)) : Bool := okL a0
noncomputable abbrev pre_ltoOpS : pshsDen P_ltoOpS → Bool := fun d => q_ltoOpS d.1
theorem runA_ltoOpS (a0 : List (Int × ByteArray × ByteArray)) (hp : (okL a0) = true) : runP false Try.prog tt S3 QF3 (fun b => match b with | 0 => say_ltoOpS_0 | _ => fun _ => none) Try.f45 (argsMk P_ltoOpS (a0, ())) = some (g_ltoOpS (a0, ())) := by
  refine Eq.trans (b := (cond (decide (0 ≤ ((a0.length : Nat) : Int) ∧ ((a0.length : Nat) : Int) = ((a0.length : Nat) : Int) ∧ ((a0.length : Nat) : Int).toNat * 40 ≤ MAXB ∧ ((a0.length : Nat) : Int) ≤ 9223372036854775807)) (cond (decide (0 ≤ (0 : Int)) && (decide ((List.replicate ((a0.length : Nat) : Int).toNat ((0 : Int), ((⟨#[]⟩ : ByteArray), (⟨#[]⟩ : ByteArray)))).length = a0.length) && okL a0)) (some (e_ltoOpS (foldN (fun i h => h.set i (f_ltoOpS_0 a0 i)) (a0.length - (0 : Int).toNat) (0 : Int).toNat (List.replicate ((a0.length : Nat) : Int).toNat ((0 : Int), ((⟨#[]⟩ : ByteArray), (⟨#[]⟩ : ByteArray))))))) none) none)) (by kernel_rfl) ?_
  exact (cndT (by first | rfl | decide | exact hp | (simp only [Bool.and_eq_true] at hp; simp only [hp]; done) | (simp [*]; done) | (simp [okL] at hp; simp [okL, MAXB]; omega) | (simp_all; done) | (simp at *; omega)) (fun _h => (cndT (by first | rfl | decide | exact hp | (simp only [Bool.and_eq_true] at hp; simp only [hp]; done) | (simp [*]; done) | (simp [okL] at hp; simp [okL, MAXB]; omega) | (simp_all; done) | (simp at *; omega)) (fun _h => rfl))))
theorem run_ltoOpS : ∀ d, pre_ltoOpS d = true → runP false Try.prog tt S3 QF3 (fun b => match b with | 0 => say_ltoOpS_0 | _ => fun _ => none) Try.f45 (argsMk P_ltoOpS d) = some (g_ltoOpS d) := fun d hp => runA_ltoOpS d.1 hp
theorem c_ltoOpS : PContract Try.prog 45 (sumOf P_ltoOpS pre_ltoOpS g_ltoOpS) := PContract.of_data false G3 (fn := Try.f45) (by kernel_rfl) (L := fun b => match b with | 0 => say_ltoOpS_0 | _ => fun _ => none) (by rw [show loopsIn 0 (bodyOf Try.f45) = [(0, body_ltoOpS_0)] by kernel_rfl]; intro p hp; simp only [List.mem_singleton] at hp; subst hp; exact lw_ltoOpS_0) P_ltoOpS pre_ltoOpS g_ltoOpS run_ltoOpS
noncomputable def S4 : Tab := Tab.add S3 45 (lift (sumOf P_ltoOpS pre_ltoOpS g_ltoOpS))
noncomputable def QF4 : FuncId → Bool := QF3
theorem G4 : Good Try.prog tt S4 QF4 := G3.add c_ltoOpS ⟨Try.f45, by kernel_rfl, by kernel_rfl, by kernel_rfl⟩ (by kernel_rfl)

/-! 136 loop.example/g00244/spec.Hash -/
noncomputable abbrev P_sHash : List PSh := [.t .str]
noncomputable abbrev S_sHash_0 : SS := ⟨[.t true .str, .junk, .junk, .t true (.int .i64), .t true (.int .i64), .junk, .junk, .junk, .junk, .junk, .junk, .junk, .junk, .junk, .junk, .junk, .junk, .junk, .junk, .junk], []⟩
noncomputable abbrev E_sHash_0_0 : SS := ⟨[.junk, .junk, .junk, .t true (.int .i64), .junk, .junk, .junk, .junk, .junk, .junk, .junk, .junk, .junk, .junk, .junk, .junk, .junk, .junk, .junk, .junk], []⟩
noncomputable def st_sHash_0 (x0 : ByteArray) (x3 : Int) (x4 : Int) : RT S_sHash_0.den := (.br (decide (x4 < ((x0.size : Nat) : Int))) (.br (decide (0 ≤ x4 ∧ x4 < ((x0.size : Nat) : Int))) (.next ((x0, (), (), iand .i64 (IntKind.wrap .i64 ((ixor .i64 x3 (IntKind.wrap .i64 (bt x0 x4))) * (16777619 : Int))) (4294967295 : Int), IntKind.wrap .i64 (x4 + (1 : Int)), (), (), (), (), (), (), (), (), (), (), (), (), (), (), (), ()), ())) .fail) (.done (.exit 0) E_sHash_0_0 (((), (), (), x3, (), (), (), (), (), (), (), (), (), (), (), (), (), (), (), (), ()), ())))
noncomputable abbrev V_sHash_0 := (ByteArray) × (Int) × (Int)
noncomputable abbrev A_sHash_0 := Nat × (Int)
noncomputable def fl_sHash_0 : A_sHash_0 := (99, ((0 : Int) : Int))
noncomputable def ss_sHash_0 (x0 : ByteArray) (x3 : Int) (x4 : Int) : V_sHash_0 ⊕ A_sHash_0 := (cond (decide (x4 < ((x0.size : Nat) : Int))) (cond (decide (0 ≤ x4 ∧ x4 < ((x0.size : Nat) : Int))) (.inl (x0, iand .i64 (IntKind.wrap .i64 ((ixor .i64 x3 (IntKind.wrap .i64 (bt x0 x4))) * (16777619 : Int))) (4294967295 : Int), IntKind.wrap .i64 (x4 + (1 : Int)))) (.inr fl_sHash_0)) (.inr (0, x3)))
noncomputable def it_sHash_0 (x0 : ByteArray) (x3 : Int) (x4 : Int) : A_sHash_0 := itX (fun v : V_sHash_0 => ss_sHash_0 v.1 v.2.1 v.2.2) fl_sHash_0 (x0, x3, x4)
noncomputable def ct_sHash_0 (a : A_sHash_0) : CT := (.br (a.1 == 0) (.done (.exit 0) E_sHash_0_0 (((), (), (), a.2, (), (), (), (), (), (), (), (), (), (), (), (), (), (), (), (), ()), ())) .fail)
noncomputable def T_sHash_0 (x0 : ByteArray) (x3 : Int) (x4 : Int) : CT := ct_sHash_0 (it_sHash_0 x0 x3 x4)
noncomputable abbrev sp_sHash_0 : S_sHash_0.den → RT S_sHash_0.den := fun d => st_sHash_0 d.1.1 d.1.2.2.2.1 d.1.2.2.2.2.1
noncomputable abbrev pk_sHash_0 (x0 : ByteArray) (x3 : Int) (x4 : Int) : S_sHash_0.den := ((x0, (), (), x3, x4, (), (), (), (), (), (), (), (), (), (), (), (), (), (), (), ()), ())
noncomputable def body_sHash_0 : Code := ((loopsIn 0 (bodyOf Try.f136)).getD 0 (0, .skip)).2
theorem R_sHash_0 (x0 : ByteArray) (x3 : Int) (x4 : Int) : (T_sHash_0 x0 x3 x4).val (D := S_sHash_0.den) = .fail ∨ Runs sp_sHash_0 (pk_sHash_0 x0 x3 x4) (T_sHash_0 x0 x3 x4).val := Runs.ofIt (step := sp_sHash_0) (fun v : V_sHash_0 => pk_sHash_0 v.1 v.2.1 v.2.2) (ct := ct_sHash_0) rfl (fun v => ((relB (relB rfl rfl) rfl) : (st_sHash_0 v.1 v.2.1 v.2.2).val = relS (fun v : V_sHash_0 => pk_sHash_0 v.1 v.2.1 v.2.2) ct_sHash_0 (ss_sHash_0 v.1 v.2.1 v.2.2))) (fun a => ((cendB (cendD (by simp)) cendF) : CEnd _ (ct_sHash_0 a))) (x0, x3, x4)
theorem rd_sHash_0 : ∀ d, execC Try.prog tt S4 QF4 (fun _ _ => none) 0 body_sHash_0 (S_sHash_0.st d 0 []) (fun e s' => some (e, S_sHash_0.cutE (kepts [] [(0, [3])]) e s')) = (sp_sHash_0 d).opt 0 [] := by
  intro d
  kernel_rfl
noncomputable abbrev say_sHash_0 : St → Option Tree := S_sHash_0.say 0 [] [] (fun d => T_sHash_0 d.1.1 d.1.2.2.2.1 d.1.2.2.2.2.1)
theorem lw_sHash_0 : LoopWp Try.prog say_sHash_0 body_sHash_0 := SS.wp G4 (fun _ _ => none) (by rw [show loopsIn 0 body_sHash_0 = [] by kernel_rfl]; simp) S_sHash_0 0 [] (kepts [] [(0, [3])]) [] sp_sHash_0 rd_sHash_0 _ (fun d => R_sHash_0 d.1.1 d.1.2.2.2.1 d.1.2.2.2.2.1)
noncomputable def sHash (a0 : ByteArray) : Int := ((it_sHash_0 a0 (2166136261 : Int) (0 : Int)).2)
noncomputable abbrev e_sHash (r : Int) : AV × List AObj := ((.t true (.int .i64) r), [])
noncomputable abbrev g_sHash : pshsDen P_sHash → AV × List AObj := fun d => e_sHash (sHash d.1)
noncomputable def q_sHash (a0 : ByteArray) : Bool := ((it_sHash_0 a0 (2166136261 : Int) (0 : Int)).1 == 0)
noncomputable abbrev pre_sHash : pshsDen P_sHash → Bool := fun d => q_sHash d.1
theorem runA_sHash (a0 : ByteArray) (hp : (((it_sHash_0 a0 (2166136261 : Int) (0 : Int)).1 == 0)) = true) : runP true Try.prog tt S4 QF4 (fun b => match b with | 0 => say_sHash_0 | _ => fun _ => none) Try.f136 (argsMk P_sHash (a0, ())) = some (g_sHash (a0, ())) := by
  refine Eq.trans (b := (cond ((it_sHash_0 a0 (2166136261 : Int) (0 : Int)).1 == 0) (some (e_sHash ((it_sHash_0 a0 (2166136261 : Int) (0 : Int)).2))) none)) (by kernel_rfl) ?_
  exact (cndT hp (fun _h => rfl))
theorem run_sHash : ∀ d, pre_sHash d = true → runP true Try.prog tt S4 QF4 (fun b => match b with | 0 => say_sHash_0 | _ => fun _ => none) Try.f136 (argsMk P_sHash d) = some (g_sHash d) := fun d hp => runA_sHash d.1 hp
theorem c_sHash : PContract Try.prog 136 (sumOf P_sHash pre_sHash g_sHash) := PContract.of_data true G4 (fn := Try.f136) (by kernel_rfl) (L := fun b => match b with | 0 => say_sHash_0 | _ => fun _ => none) (by rw [show loopsIn 0 (bodyOf Try.f136) = [(0, body_sHash_0)] by kernel_rfl]; intro p hp; simp only [List.mem_singleton] at hp; subst hp; exact lw_sHash_0) P_sHash pre_sHash g_sHash run_sHash
noncomputable def S5 : Tab := Tab.add S4 136 (lift (sumOf P_sHash pre_sHash g_sHash))
noncomputable def QF5 : FuncId → Bool := qadd QF4 136
theorem G5 : Good Try.prog tt S5 QF5 := G4.addQ c_sHash ⟨Try.f136, by kernel_rfl, by kernel_rfl, by kernel_rfl⟩ (fun _ => rfl)

/-! 78 loop.example/g00244/spec.ShardOf -/
noncomputable abbrev P_sShardOf : List PSh := [.t .str, .t (.int .i64)]
noncomputable def sShardOf (a0 : ByteArray) (a1 : Int) : Int := (cond (decide (a1 < (1 : Int))) (0 : Int) (Int.tmod (sHash a0) a1))
noncomputable abbrev e_sShardOf (r : Int) : AV × List AObj := ((.t true (.int .i64) r), [])
noncomputable abbrev g_sShardOf : pshsDen P_sShardOf → AV × List AObj := fun d => e_sShardOf (sShardOf d.1 d.2.1)
noncomputable def q_sShardOf (a0 : ByteArray) (a1 : Int) : Bool := cond (decide (a1 < (1 : Int))) true ((q_sHash a0) && (decide (a1 ≠ 0)))
noncomputable abbrev pre_sShardOf : pshsDen P_sShardOf → Bool := fun d => q_sShardOf d.1 d.2.1
theorem runA_sShardOf (a0 : ByteArray) (a1 : Int) (hp : (cond (decide (a1 < (1 : Int))) true ((q_sHash a0) && (decide (a1 ≠ 0)))) = true) : runP true Try.prog tt S5 QF5 (fun _ _ => none) Try.f78 (argsMk P_sShardOf (a0, (a1, ()))) = some (g_sShardOf (a0, (a1, ()))) := by
  refine Eq.trans (b := (cond (decide (a1 < (1 : Int))) (some (e_sShardOf (0 : Int))) (cond (q_sHash a0) (cond (decide (a1 ≠ 0)) (some (e_sShardOf (Int.tmod (sHash a0) a1))) none) none))) (by kernel_rfl) ?_
  exact (cndQ (F := fun r => some (e_sShardOf r)) hp (fun hp => rfl) (fun hp => (cndT (andL hp) (fun _h => (fun hp => (cndT hp (fun _h => rfl))) (andR hp)))))
theorem run_sShardOf : ∀ d, pre_sShardOf d = true → runP true Try.prog tt S5 QF5 (fun _ _ => none) Try.f78 (argsMk P_sShardOf d) = some (g_sShardOf d) := fun d hp => runA_sShardOf d.1 d.2.1 hp
theorem c_sShardOf : PContract Try.prog 78 (sumOf P_sShardOf pre_sShardOf g_sShardOf) := PContract.of_data true G5 (fn := Try.f78) (by kernel_rfl) (L := fun _ _ => none) (by rw [show loopsIn 0 (bodyOf Try.f78) = [] by kernel_rfl]; simp) P_sShardOf pre_sShardOf g_sShardOf run_sShardOf
noncomputable def S6 : Tab := Tab.add S5 78 (lift (sumOf P_sShardOf pre_sShardOf g_sShardOf))
noncomputable def QF6 : FuncId → Bool := qadd QF5 78
theorem G6 : Good Try.prog tt S6 QF6 := G5.addQ c_sShardOf ⟨Try.f78, by kernel_rfl, by kernel_rfl, by kernel_rfl⟩ (fun _ => rfl)

/-! 160 loop.example/g00244/spec.l7Has -/
noncomputable abbrev P_sl7Has : List PSh := [.t (.sl (.int .i64)), .t (.int .i64)]
noncomputable abbrev S_sl7Has_0 : SS := ⟨[.t false (.sl (.int .i64)), .t true (.int .i64), .junk, .junk, .junk, .t true (.int .i64), .junk, .junk, .junk, .junk, .junk, .junk, .junk, .junk, .junk, .junk, .junk, .junk], []⟩
noncomputable abbrev E_sl7Has_0_0 : SS := ⟨[.junk, .junk, .junk, .junk, .t true .bool, .junk, .junk, .junk, .junk, .junk, .junk, .junk, .junk, .junk, .junk, .junk, .junk, .junk], []⟩
noncomputable abbrev E_sl7Has_0_1 : SS := ⟨[.junk, .junk, .junk, .junk, .junk, .junk, .junk, .junk, .junk, .junk, .junk, .junk, .junk, .junk, .junk, .junk, .junk, .junk], []⟩
noncomputable def st_sl7Has_0 (x0 : List Int) (x1 : Int) (x5 : Int) : RT S_sl7Has_0.den := (.br (decide (x5 < ((x0.length : Nat) : Int))) (.br (decide (0 ≤ x5 ∧ x5 < ((x0.length : Nat) : Int))) (.br ((x0.getD x5.toNat (0 : Int)) == x1) (.done .ret E_sl7Has_0_0 (((), (), (), (), true, (), (), (), (), (), (), (), (), (), (), (), (), (), ()), ())) (.next ((x0, x1, (), (), (), IntKind.wrap .i64 (x5 + (1 : Int)), (), (), (), (), (), (), (), (), (), (), (), (), ()), ()))) .fail) (.done (.exit 0) E_sl7Has_0_1 (((), (), (), (), (), (), (), (), (), (), (), (), (), (), (), (), (), (), ()), ())))
noncomputable abbrev V_sl7Has_0 := (List Int) × (Int) × (Int)
noncomputable abbrev A_sl7Has_0 := Nat × (Bool)
noncomputable def fl_sl7Has_0 : A_sl7Has_0 := (99, (false : Bool))
noncomputable def ss_sl7Has_0 (x0 : List Int) (x1 : Int) (x5 : Int) : V_sl7Has_0 ⊕ A_sl7Has_0 := (cond (decide (x5 < ((x0.length : Nat) : Int))) (cond (decide (0 ≤ x5 ∧ x5 < ((x0.length : Nat) : Int))) (cond ((x0.getD x5.toNat (0 : Int)) == x1) (.inr (0, true)) (.inl (x0, x1, IntKind.wrap .i64 (x5 + (1 : Int))))) (.inr fl_sl7Has_0)) (.inr (1, (false : Bool))))
noncomputable def it_sl7Has_0 (x0 : List Int) (x1 : Int) (x5 : Int) : A_sl7Has_0 := itX (fun v : V_sl7Has_0 => ss_sl7Has_0 v.1 v.2.1 v.2.2) fl_sl7Has_0 (x0, x1, x5)
noncomputable def ct_sl7Has_0 (a : A_sl7Has_0) : CT := (.br (a.1 == 0) (.done .ret E_sl7Has_0_0 (((), (), (), (), a.2, (), (), (), (), (), (), (), (), (), (), (), (), (), ()), ())) (.br (a.1 == 1) (.done (.exit 0) E_sl7Has_0_1 (((), (), (), (), (), (), (), (), (), (), (), (), (), (), (), (), (), (), ()), ())) .fail))
noncomputable def T_sl7Has_0 (x0 : List Int) (x1 : Int) (x5 : Int) : CT := ct_sl7Has_0 (it_sl7Has_0 x0 x1 x5)
noncomputable abbrev sp_sl7Has_0 : S_sl7Has_0.den → RT S_sl7Has_0.den := fun d => st_sl7Has_0 d.1.1 d.1.2.1 d.1.2.2.2.2.2.1
noncomputable abbrev pk_sl7Has_0 (x0 : List Int) (x1 : Int) (x5 : Int) : S_sl7Has_0.den := ((x0, x1, (), (), (), x5, (), (), (), (), (), (), (), (), (), (), (), (), ()), ())
noncomputable def body_sl7Has_0 : Code := ((loopsIn 0 (bodyOf Try.f160)).getD 0 (0, .skip)).2
theorem R_sl7Has_0 (x0 : List Int) (x1 : Int) (x5 : Int) : (T_sl7Has_0 x0 x1 x5).val (D := S_sl7Has_0.den) = .fail ∨ Runs sp_sl7Has_0 (pk_sl7Has_0 x0 x1 x5) (T_sl7Has_0 x0 x1 x5).val := Runs.ofIt (step := sp_sl7Has_0) (fun v : V_sl7Has_0 => pk_sl7Has_0 v.1 v.2.1 v.2.2) (ct := ct_sl7Has_0) rfl (fun v => ((relB (relB (relB rfl rfl) rfl) rfl) : (st_sl7Has_0 v.1 v.2.1 v.2.2).val = relS (fun v : V_sl7Has_0 => pk_sl7Has_0 v.1 v.2.1 v.2.2) ct_sl7Has_0 (ss_sl7Has_0 v.1 v.2.1 v.2.2))) (fun a => ((cendB (cendD (by simp)) (cendB (cendD (by simp)) cendF)) : CEnd _ (ct_sl7Has_0 a))) (x0, x1, x5)
theorem rd_sl7Has_0 : ∀ d, execC Try.prog tt S6 QF6 (fun _ _ => none) 0 body_sl7Has_0 (S_sl7Has_0.st d 0 []) (fun e s' => some (e, S_sl7Has_0.cutE (kepts [4] [(0, [])]) e s')) = (sp_sl7Has_0 d).opt 0 [] := by
  intro d
  kernel_rfl
noncomputable abbrev say_sl7Has_0 : St → Option Tree := S_sl7Has_0.say 0 [] [] (fun d => T_sl7Has_0 d.1.1 d.1.2.1 d.1.2.2.2.2.2.1)
theorem lw_sl7Has_0 : LoopWp Try.prog say_sl7Has_0 body_sl7Has_0 := SS.wp G6 (fun _ _ => none) (by rw [show loopsIn 0 body_sl7Has_0 = [] by kernel_rfl]; simp) S_sl7Has_0 0 [] (kepts [4] [(0, [])]) [] sp_sl7Has_0 rd_sl7Has_0 _ (fun d => R_sl7Has_0 d.1.1 d.1.2.1 d.1.2.2.2.2.2.1)
noncomputable def sl7Has (a0 : List Int) (a1 : Int) : Bool := (cond ((it_sl7Has_0 a0 a1 (0 : Int)).1 == 0) ((it_sl7Has_0 a0 a1 (0 : Int)).2) false)
noncomputable abbrev e_sl7Has (r : Bool) : AV × List AObj := ((.t true .bool r), [])
noncomputable abbrev g_sl7Has : pshsDen P_sl7Has → AV × List AObj := fun d => e_sl7Has (sl7Has d.1 d.2.1)
noncomputable def q_sl7Has (a0 : List Int) (a1 : Int) : Bool := cond ((it_sl7Has_0 a0 a1 (0 : Int)).1 == 0) true ((it_sl7Has_0 a0 a1 (0 : Int)).1 == 1)
noncomputable abbrev pre_sl7Has : pshsDen P_sl7Has → Bool := fun d => q_sl7Has d.1 d.2.1
theorem runA_sl7Has (a0 : List Int) (a1 : Int) (hp : (cond ((it_sl7Has_0 a0 a1 (0 : Int)).1 == 0) true ((it_sl7Has_0 a0 a1 (0 : Int)).1 == 1)) = true) : runP true Try.prog tt S6 QF6 (fun b => match b with | 0 => say_sl7Has_0 | _ => fun _ => none) Try.f160 (argsMk P_sl7Has (a0, (a1, ()))) = some (g_sl7Has (a0, (a1, ()))) := by
  refine Eq.trans (b := (cond ((it_sl7Has_0 a0 a1 (0 : Int)).1 == 0) (some (e_sl7Has ((it_sl7Has_0 a0 a1 (0 : Int)).2))) (cond ((it_sl7Has_0 a0 a1 (0 : Int)).1 == 1) (some (e_sl7Has false)) none))) (by kernel_rfl) ?_
  exact (cndQ (F := fun r => some (e_sl7Has r)) hp (fun hp => rfl) (fun hp => (cndT hp (fun _h => rfl))))
theorem run_sl7Has : ∀ d, pre_sl7Has d = true → runP true Try.prog tt S6 QF6 (fun b => match b with | 0 => say_sl7Has_0 | _ => fun _ => none) Try.f160 (argsMk P_sl7Has d) = some (g_sl7Has d) := fun d hp => runA_sl7Has d.1 d.2.1 hp
theorem c_sl7Has : PContract Try.prog 160 (sumOf P_sl7Has pre_sl7Has g_sl7Has) := PContract.of_data true G6 (fn := Try.f160) (by kernel_rfl) (L := fun b => match b with | 0 => say_sl7Has_0 | _ => fun _ => none) (by rw [show loopsIn 0 (bodyOf Try.f160) = [(0, body_sl7Has_0)] by kernel_rfl]; intro p hp; simp only [List.mem_singleton] at hp; subst hp; exact lw_sl7Has_0) P_sl7Has pre_sl7Has g_sl7Has run_sl7Has
noncomputable def S7 : Tab := Tab.add S6 160 (lift (sumOf P_sl7Has pre_sl7Has g_sl7Has))
noncomputable def QF7 : FuncId → Bool := qadd QF6 160
theorem G7 : Good Try.prog tt S7 QF7 := G6.addQ c_sl7Has ⟨Try.f160, by kernel_rfl, by kernel_rfl, by kernel_rfl⟩ (fun _ => rfl)

/-! 137 loop.example/g00244/spec.l7Put -/
noncomputable abbrev SM_sl7Put : SS := ⟨[.all 0 1, .t true (.int .i64)], [.rows 3 true (.int .i64)]⟩
noncomputable abbrev S_sl7Put_0 : SS := ⟨[.junk, .t true (.int .i64), .junk, .junk, .junk, .all 1 1, .t true (.int .i64), .junk, .junk, .junk, .junk, .junk, .junk, .junk, .junk, .junk, .junk, .junk, .junk, .junk, .junk, .junk, .junk, .junk, .junk, .junk, .junk, .junk, .junk, .junk, .junk, .junk, .junk, .junk, .junk, .junk, .junk, .junk, .junk, .junk, .junk, .junk, .junk, .junk, .junk, .junk], [.rows 3 true (.int .i64), .rows 3 true (.int .i64)]⟩
noncomputable abbrev E_sl7Put_0_0 : SS := ⟨[.junk, .t true (.int .i64), .junk, .junk, .junk, .all 1 1, .t true (.int .i64), .junk, .junk, .junk, .junk, .junk, .junk, .junk, .junk, .junk, .junk, .junk, .junk, .junk, .junk, .junk, .junk, .junk, .junk, .junk, .junk, .junk, .junk, .junk, .junk, .junk, .junk, .junk, .junk, .junk, .junk, .junk, .junk, .junk, .junk, .junk, .junk, .junk, .junk, .junk], [.rows 3 true (.int .i64), .rows 3 true (.int .i64)]⟩
noncomputable def st_sl7Put_0 (x1 : Int) (x6 : Int) (h0 : List Int) (h1 : List Int) : RT S_sl7Put_0.den := (.br (decide (x6 > (0 : Int))) (.br (decide (0 ≤ (IntKind.wrap .i64 (x6 - (1 : Int))) ∧ (IntKind.wrap .i64 (x6 - (1 : Int))) < ((h1.length : Nat) : Int))) (.br (decide ((h1.getD ((IntKind.wrap .i64 (x6 - (1 : Int))).toNat) (0 : Int)) > x1)) (.br (decide (0 ≤ (IntKind.wrap .i64 (x6 - (1 : Int))) ∧ (IntKind.wrap .i64 (x6 - (1 : Int))) < ((h1.length : Nat) : Int))) (.br (decide (0 ≤ x6 ∧ x6 < ((h1.length : Nat) : Int))) (.next (((), x1, (), (), (), (), IntKind.wrap .i64 (x6 - (1 : Int)), (), (), (), (), (), (), (), (), (), (), (), (), (), (), (), (), (), (), (), (), (), (), (), (), (), (), (), (), (), (), (), (), (), (), (), (), (), (), (), ()), (h0, h1.set x6.toNat (h1.getD ((IntKind.wrap .i64 (x6 - (1 : Int))).toNat) (0 : Int)), ()))) .fail) .fail) (.done (.exit 0) E_sl7Put_0_0 (((), x1, (), (), (), (), x6, (), (), (), (), (), (), (), (), (), (), (), (), (), (), (), (), (), (), (), (), (), (), (), (), (), (), (), (), (), (), (), (), (), (), (), (), (), (), (), ()), (h0, h1, ())))) .fail) (.done (.exit 0) E_sl7Put_0_0 (((), x1, (), (), (), (), x6, (), (), (), (), (), (), (), (), (), (), (), (), (), (), (), (), (), (), (), (), (), (), (), (), (), (), (), (), (), (), (), (), (), (), (), (), (), (), (), ()), (h0, h1, ()))))
noncomputable abbrev V_sl7Put_0 := (Int) × (Int) × (List Int) × (List Int)
noncomputable abbrev A_sl7Put_0 := Nat × (Int) × (Int) × (List Int) × (List Int)
noncomputable def fl_sl7Put_0 : A_sl7Put_0 := (99, ((0 : Int) : Int), ((0 : Int) : Int), ([] : List Int), ([] : List Int))
noncomputable def ss_sl7Put_0 (x1 : Int) (x6 : Int) (h0 : List Int) (h1 : List Int) : V_sl7Put_0 ⊕ A_sl7Put_0 := (cond (decide (x6 > (0 : Int))) (cond (decide (0 ≤ (IntKind.wrap .i64 (x6 - (1 : Int))) ∧ (IntKind.wrap .i64 (x6 - (1 : Int))) < ((h1.length : Nat) : Int))) (cond (decide ((h1.getD ((IntKind.wrap .i64 (x6 - (1 : Int))).toNat) (0 : Int)) > x1)) (cond (decide (0 ≤ (IntKind.wrap .i64 (x6 - (1 : Int))) ∧ (IntKind.wrap .i64 (x6 - (1 : Int))) < ((h1.length : Nat) : Int))) (cond (decide (0 ≤ x6 ∧ x6 < ((h1.length : Nat) : Int))) (.inl (x1, IntKind.wrap .i64 (x6 - (1 : Int)), h0, h1.set x6.toNat (h1.getD ((IntKind.wrap .i64 (x6 - (1 : Int))).toNat) (0 : Int)))) (.inr fl_sl7Put_0)) (.inr fl_sl7Put_0)) (.inr (0, x1, x6, h0, h1))) (.inr fl_sl7Put_0)) (.inr (0, x1, x6, h0, h1)))
noncomputable def it_sl7Put_0 (x1 : Int) (x6 : Int) (h0 : List Int) (h1 : List Int) : A_sl7Put_0 := itX (fun v : V_sl7Put_0 => ss_sl7Put_0 v.1 v.2.1 v.2.2.1 v.2.2.2) fl_sl7Put_0 (x1, x6, h0, h1)
noncomputable def ct_sl7Put_0 (a : A_sl7Put_0) : CT := (.br (a.1 == 0) (.done (.exit 0) E_sl7Put_0_0 (((), a.2.1, (), (), (), (), a.2.2.1, (), (), (), (), (), (), (), (), (), (), (), (), (), (), (), (), (), (), (), (), (), (), (), (), (), (), (), (), (), (), (), (), (), (), (), (), (), (), (), ()), (a.2.2.2.1, a.2.2.2.2, ()))) .fail)
noncomputable def T_sl7Put_0 (x1 : Int) (x6 : Int) (h0 : List Int) (h1 : List Int) : CT := ct_sl7Put_0 (it_sl7Put_0 x1 x6 h0 h1)
noncomputable abbrev sp_sl7Put_0 : S_sl7Put_0.den → RT S_sl7Put_0.den := fun d => st_sl7Put_0 d.1.2.1 d.1.2.2.2.2.2.2.1 d.2.1 d.2.2.1
noncomputable abbrev pk_sl7Put_0 (x1 : Int) (x6 : Int) (h0 : List Int) (h1 : List Int) : S_sl7Put_0.den := (((), x1, (), (), (), (), x6, (), (), (), (), (), (), (), (), (), (), (), (), (), (), (), (), (), (), (), (), (), (), (), (), (), (), (), (), (), (), (), (), (), (), (), (), (), (), (), ()), (h0, h1, ()))
noncomputable def body_sl7Put_0 : Code := ((loopsIn 0 (bodyOf Try.f137)).getD 0 (0, .skip)).2
theorem R_sl7Put_0 (x1 : Int) (x6 : Int) (h0 : List Int) (h1 : List Int) : (T_sl7Put_0 x1 x6 h0 h1).val (D := S_sl7Put_0.den) = .fail ∨ Runs sp_sl7Put_0 (pk_sl7Put_0 x1 x6 h0 h1) (T_sl7Put_0 x1 x6 h0 h1).val := Runs.ofIt (step := sp_sl7Put_0) (fun v : V_sl7Put_0 => pk_sl7Put_0 v.1 v.2.1 v.2.2.1 v.2.2.2) (ct := ct_sl7Put_0) rfl (fun v => ((relB (relB (relB (relB (relB rfl rfl) rfl) rfl) rfl) rfl) : (st_sl7Put_0 v.1 v.2.1 v.2.2.1 v.2.2.2).val = relS (fun v : V_sl7Put_0 => pk_sl7Put_0 v.1 v.2.1 v.2.2.1 v.2.2.2) ct_sl7Put_0 (ss_sl7Put_0 v.1 v.2.1 v.2.2.1 v.2.2.2))) (fun a => ((cendB (cendD (by simp)) cendF) : CEnd _ (ct_sl7Put_0 a))) (x1, x6, h0, h1)
theorem rd_sl7Put_0 : ∀ d, execC Try.prog tt S7 QF7 (fun _ _ => none) 0 body_sl7Put_0 (S_sl7Put_0.st d 1 []) (fun e s' => some (e, S_sl7Put_0.cutE (kepts [] [(0, [1, 5, 6])]) e s')) = (sp_sl7Put_0 d).opt 1 [] := by
  intro d
  kernel_rfl
noncomputable abbrev say_sl7Put_0 : St → Option Tree := S_sl7Put_0.say 1 [] [] (fun d => T_sl7Put_0 d.1.2.1 d.1.2.2.2.2.2.2.1 d.2.1 d.2.2.1)
theorem lw_sl7Put_0 : LoopWp Try.prog say_sl7Put_0 body_sl7Put_0 := SS.wp G7 (fun _ _ => none) (by rw [show loopsIn 0 body_sl7Put_0 = [] by kernel_rfl]; simp) S_sl7Put_0 1 [] (kepts [] [(0, [1, 5, 6])]) [] sp_sl7Put_0 rd_sl7Put_0 _ (fun d => R_sl7Put_0 d.1.2.1 d.1.2.2.2.2.2.2.1 d.2.1 d.2.2.1)
noncomputable def k1_sl7Put (x1 : Int) (h0 : List Int) := it_sl7Put_0 x1 (IntKind.wrap .i64 (((((([] : List Int) ++ h0) ++ [x1]).length : Nat) : Int) - (1 : Int))) h0 ((([] : List Int) ++ h0) ++ [x1])
noncomputable def sl7Put (x1 : Int) (h0 : List Int) : List Int := (cond (sl7Has h0 x1) h0 (((k1_sl7Put x1 h0).2.2.2.2).set (((k1_sl7Put x1 h0).2.2.1).toNat) ((k1_sl7Put x1 h0).2.1)))
noncomputable abbrev e_sl7Put (r : List Int) : AV × List AObj × List Nat := ((.t true (.sl (.int .i64)) r), [.dead], [])
noncomputable abbrev g_sl7Put : SM_sl7Put.den → AV × List AObj × List Nat := fun d => e_sl7Put (sl7Put d.1.2.1 d.2.1)
noncomputable def q_sl7Put (x1 : Int) (h0 : List Int) : Bool := (q_sl7Has h0 x1) && (cond (sl7Has h0 x1) true ((decide ((([] : List Int).length + h0.length) * 8 ≤ MAXB)) && ((decide (((([] : List Int) ++ h0).length + [x1].length) * 8 ≤ MAXB)) && (((k1_sl7Put x1 h0).1 == 0) && (decide (0 ≤ ((k1_sl7Put x1 h0).2.2.1) ∧ ((k1_sl7Put x1 h0).2.2.1) < ((((k1_sl7Put x1 h0).2.2.2.2).length : Nat) : Int)))))))
noncomputable abbrev pre_sl7Put : SM_sl7Put.den → Bool := fun d => q_sl7Put d.1.2.1 d.2.1
theorem runA_sl7Put (x1 : Int) (h0 : List Int) (hp : ((q_sl7Has h0 x1) && (cond (sl7Has h0 x1) true ((decide ((([] : List Int).length + h0.length) * 8 ≤ MAXB)) && ((decide (((([] : List Int) ++ h0).length + [x1].length) * 8 ≤ MAXB)) && (((k1_sl7Put x1 h0).1 == 0) && (decide (0 ≤ ((k1_sl7Put x1 h0).2.2.1) ∧ ((k1_sl7Put x1 h0).2.2.1) < ((((k1_sl7Put x1 h0).2.2.2.2).length : Nat) : Int)))))))) = true) : runMR Try.prog tt S7 QF7 (fun b => match b with | 0 => say_sl7Put_0 | _ => fun _ => none) Try.f137 (shsMk SM_sl7Put.sl ((((), x1, ()), (h0, ())) : SM_sl7Put.den).1) (ohsMk SM_sl7Put.hp ((((), x1, ()), (h0, ())) : SM_sl7Put.den).2) [.all 0 1] = some (g_sl7Put (((), x1, ()), (h0, ()))) := by
  refine Eq.trans (b := (cond (q_sl7Has h0 x1) (cond (sl7Has h0 x1) (some (e_sl7Put h0)) (cond (decide ((([] : List Int).length + h0.length) * 8 ≤ MAXB)) (cond (decide (((([] : List Int) ++ h0).length + [x1].length) * 8 ≤ MAXB)) (cond ((k1_sl7Put x1 h0).1 == 0) (cond (decide (0 ≤ ((k1_sl7Put x1 h0).2.2.1) ∧ ((k1_sl7Put x1 h0).2.2.1) < ((((k1_sl7Put x1 h0).2.2.2.2).length : Nat) : Int))) (some (e_sl7Put (((k1_sl7Put x1 h0).2.2.2.2).set (((k1_sl7Put x1 h0).2.2.1).toNat) ((k1_sl7Put x1 h0).2.1)))) none) none) none) none)) none)) (by kernel_rfl) ?_
  exact (cndT (andL hp) (fun _h => (fun hp => (cndQ (F := fun r => some (e_sl7Put r)) hp (fun hp => rfl) (fun hp => (cndT (andL hp) (fun _h => (fun hp => (cndT (andL hp) (fun _h => (fun hp => (cndT (andL hp) (fun _h => (fun hp => (cndT hp (fun _h => rfl))) (andR hp)))) (andR hp)))) (andR hp)))))) (andR hp)))
theorem run_sl7Put : ∀ d : SM_sl7Put.den, pre_sl7Put d = true → runMR Try.prog tt S7 QF7 (fun b => match b with | 0 => say_sl7Put_0 | _ => fun _ => none) Try.f137 (shsMk SM_sl7Put.sl (d : SM_sl7Put.den).1) (ohsMk SM_sl7Put.hp (d : SM_sl7Put.den).2) [.all 0 1] = some (g_sl7Put d) := fun d hp => runA_sl7Put d.1.2.1 d.2.1 hp
theorem c_sl7Put : MContract Try.prog 137 (win winIds (msum SM_sl7Put pre_sl7Put g_sl7Put)) := (MContract.of_dataRD [.all 0 1]  G7 (fn := Try.f137) (by kernel_rfl) (L := fun b => match b with | 0 => say_sl7Put_0 | _ => fun _ => none) (by rw [show loopsIn 0 (bodyOf Try.f137) = [(0, body_sl7Put_0)] by kernel_rfl]; intro p hp; simp only [List.mem_singleton] at hp; subst hp; exact lw_sl7Put_0) SM_sl7Put pre_sl7Put g_sl7Put run_sl7Put).win winIds
noncomputable def S8 : Tab := Tab.add S7 137 (win winIds (msum SM_sl7Put pre_sl7Put g_sl7Put))
noncomputable def QF8 : FuncId → Bool := QF7
theorem G8 : Good Try.prog tt S8 QF8 := G7.addM c_sl7Put (win_local _) ⟨Try.f137, by kernel_rfl, by kernel_rfl, by kernel_rfl⟩ (by kernel_rfl)

/-! 137 loop.example/g00244/spec.l7Put -/
noncomputable abbrev SM_sl7Put_w1 : SS := ⟨[.t true (.sl (.int .i64)), .t true (.int .i64)], []⟩
noncomputable abbrev S_sl7Put_w1_0 : SS := ⟨[.junk, .t true (.int .i64), .junk, .junk, .junk, .all 0 1, .t true (.int .i64), .junk, .junk, .junk, .junk, .junk, .junk, .junk, .junk, .junk, .junk, .junk, .junk, .junk, .junk, .junk, .junk, .junk, .junk, .junk, .junk, .junk, .junk, .junk, .junk, .junk, .junk, .junk, .junk, .junk, .junk, .junk, .junk, .junk, .junk, .junk, .junk, .junk, .junk, .junk], [.rows 3 true (.int .i64)]⟩
noncomputable abbrev E_sl7Put_w1_0_0 : SS := ⟨[.junk, .t true (.int .i64), .junk, .junk, .junk, .all 0 1, .t true (.int .i64), .junk, .junk, .junk, .junk, .junk, .junk, .junk, .junk, .junk, .junk, .junk, .junk, .junk, .junk, .junk, .junk, .junk, .junk, .junk, .junk, .junk, .junk, .junk, .junk, .junk, .junk, .junk, .junk, .junk, .junk, .junk, .junk, .junk, .junk, .junk, .junk, .junk, .junk, .junk], [.rows 3 true (.int .i64)]⟩
noncomputable def st_sl7Put_w1_0 (x1 : Int) (x6 : Int) (h0 : List Int) : RT S_sl7Put_w1_0.den := (.br (decide (x6 > (0 : Int))) (.br (decide (0 ≤ (IntKind.wrap .i64 (x6 - (1 : Int))) ∧ (IntKind.wrap .i64 (x6 - (1 : Int))) < ((h0.length : Nat) : Int))) (.br (decide ((h0.getD ((IntKind.wrap .i64 (x6 - (1 : Int))).toNat) (0 : Int)) > x1)) (.br (decide (0 ≤ (IntKind.wrap .i64 (x6 - (1 : Int))) ∧ (IntKind.wrap .i64 (x6 - (1 : Int))) < ((h0.length : Nat) : Int))) (.br (decide (0 ≤ x6 ∧ x6 < ((h0.length : Nat) : Int))) (.next (((), x1, (), (), (), (), IntKind.wrap .i64 (x6 - (1 : Int)), (), (), (), (), (), (), (), (), (), (), (), (), (), (), (), (), (), (), (), (), (), (), (), (), (), (), (), (), (), (), (), (), (), (), (), (), (), (), (), ()), (h0.set x6.toNat (h0.getD ((IntKind.wrap .i64 (x6 - (1 : Int))).toNat) (0 : Int)), ()))) .fail) .fail) (.done (.exit 0) E_sl7Put_w1_0_0 (((), x1, (), (), (), (), x6, (), (), (), (), (), (), (), (), (), (), (), (), (), (), (), (), (), (), (), (), (), (), (), (), (), (), (), (), (), (), (), (), (), (), (), (), (), (), (), ()), (h0, ())))) .fail) (.done (.exit 0) E_sl7Put_w1_0_0 (((), x1, (), (), (), (), x6, (), (), (), (), (), (), (), (), (), (), (), (), (), (), (), (), (), (), (), (), (), (), (), (), (), (), (), (), (), (), (), (), (), (), (), (), (), (), (), ()), (h0, ()))))
noncomputable abbrev V_sl7Put_w1_0 := (Int) × (Int) × (List Int)
noncomputable abbrev A_sl7Put_w1_0 := Nat × (Int) × (Int) × (List Int)
noncomputable def fl_sl7Put_w1_0 : A_sl7Put_w1_0 := (99, ((0 : Int) : Int), ((0 : Int) : Int), ([] : List Int))
noncomputable def ss_sl7Put_w1_0 (x1 : Int) (x6 : Int) (h0 : List Int) : V_sl7Put_w1_0 ⊕ A_sl7Put_w1_0 := (cond (decide (x6 > (0 : Int))) (cond (decide (0 ≤ (IntKind.wrap .i64 (x6 - (1 : Int))) ∧ (IntKind.wrap .i64 (x6 - (1 : Int))) < ((h0.length : Nat) : Int))) (cond (decide ((h0.getD ((IntKind.wrap .i64 (x6 - (1 : Int))).toNat) (0 : Int)) > x1)) (cond (decide (0 ≤ (IntKind.wrap .i64 (x6 - (1 : Int))) ∧ (IntKind.wrap .i64 (x6 - (1 : Int))) < ((h0.length : Nat) : Int))) (cond (decide (0 ≤ x6 ∧ x6 < ((h0.length : Nat) : Int))) (.inl (x1, IntKind.wrap .i64 (x6 - (1 : Int)), h0.set x6.toNat (h0.getD ((IntKind.wrap .i64 (x6 - (1 : Int))).toNat) (0 : Int)))) (.inr fl_sl7Put_w1_0)) (.inr fl_sl7Put_w1_0)) (.inr (0, x1, x6, h0))) (.inr fl_sl7Put_w1_0)) (.inr (0, x1, x6, h0)))
noncomputable def it_sl7Put_w1_0 (x1 : Int) (x6 : Int) (h0 : List Int) : A_sl7Put_w1_0 := itX (fun v : V_sl7Put_w1_0 => ss_sl7Put_w1_0 v.1 v.2.1 v.2.2) fl_sl7Put_w1_0 (x1, x6, h0)
noncomputable def ct_sl7Put_w1_0 (a : A_sl7Put_w1_0) : CT := (.br (a.1 == 0) (.done (.exit 0) E_sl7Put_w1_0_0 (((), a.2.1, (), (), (), (), a.2.2.1, (), (), (), (), (), (), (), (), (), (), (), (), (), (), (), (), (), (), (), (), (), (), (), (), (), (), (), (), (), (), (), (), (), (), (), (), (), (), (), ()), (a.2.2.2, ()))) .fail)
noncomputable def T_sl7Put_w1_0 (x1 : Int) (x6 : Int) (h0 : List Int) : CT := ct_sl7Put_w1_0 (it_sl7Put_w1_0 x1 x6 h0)
noncomputable abbrev sp_sl7Put_w1_0 : S_sl7Put_w1_0.den → RT S_sl7Put_w1_0.den := fun d => st_sl7Put_w1_0 d.1.2.1 d.1.2.2.2.2.2.2.1 d.2.1
noncomputable abbrev pk_sl7Put_w1_0 (x1 : Int) (x6 : Int) (h0 : List Int) : S_sl7Put_w1_0.den := (((), x1, (), (), (), (), x6, (), (), (), (), (), (), (), (), (), (), (), (), (), (), (), (), (), (), (), (), (), (), (), (), (), (), (), (), (), (), (), (), (), (), (), (), (), (), (), ()), (h0, ()))
noncomputable def body_sl7Put_w1_0 : Code := ((loopsIn 0 (bodyOf Try.f137)).getD 0 (0, .skip)).2
theorem R_sl7Put_w1_0 (x1 : Int) (x6 : Int) (h0 : List Int) : (T_sl7Put_w1_0 x1 x6 h0).val (D := S_sl7Put_w1_0.den) = .fail ∨ Runs sp_sl7Put_w1_0 (pk_sl7Put_w1_0 x1 x6 h0) (T_sl7Put_w1_0 x1 x6 h0).val := Runs.ofIt (step := sp_sl7Put_w1_0) (fun v : V_sl7Put_w1_0 => pk_sl7Put_w1_0 v.1 v.2.1 v.2.2) (ct := ct_sl7Put_w1_0) rfl (fun v => ((relB (relB (relB (relB (relB rfl rfl) rfl) rfl) rfl) rfl) : (st_sl7Put_w1_0 v.1 v.2.1 v.2.2).val = relS (fun v : V_sl7Put_w1_0 => pk_sl7Put_w1_0 v.1 v.2.1 v.2.2) ct_sl7Put_w1_0 (ss_sl7Put_w1_0 v.1 v.2.1 v.2.2))) (fun a => ((cendB (cendD (by simp)) cendF) : CEnd _ (ct_sl7Put_w1_0 a))) (x1, x6, h0)
theorem rd_sl7Put_w1_0 : ∀ d, execC Try.prog tt S8 QF8 (fun _ _ => none) 0 body_sl7Put_w1_0 (S_sl7Put_w1_0.st d 0 []) (fun e s' => some (e, S_sl7Put_w1_0.cutE (kepts [] [(0, [1, 5, 6])]) e s')) = (sp_sl7Put_w1_0 d).opt 0 [] := by
  intro d
  kernel_rfl
noncomputable abbrev say_sl7Put_w1_0 : St → Option Tree := S_sl7Put_w1_0.say 0 [] [] (fun d => T_sl7Put_w1_0 d.1.2.1 d.1.2.2.2.2.2.2.1 d.2.1)
theorem lw_sl7Put_w1_0 : LoopWp Try.prog say_sl7Put_w1_0 body_sl7Put_w1_0 := SS.wp G8 (fun _ _ => none) (by rw [show loopsIn 0 body_sl7Put_w1_0 = [] by kernel_rfl]; simp) S_sl7Put_w1_0 0 [] (kepts [] [(0, [1, 5, 6])]) [] sp_sl7Put_w1_0 rd_sl7Put_w1_0 _ (fun d => R_sl7Put_w1_0 d.1.2.1 d.1.2.2.2.2.2.2.1 d.2.1)
noncomputable def k1_sl7Put_w1 (x0 : List Int) (x1 : Int) := it_sl7Put_w1_0 x1 (IntKind.wrap .i64 (((((([] : List Int) ++ x0) ++ [x1]).length : Nat) : Int) - (1 : Int))) ((([] : List Int) ++ x0) ++ [x1])
noncomputable def sl7Put_w1 (x0 : List Int) (x1 : Int) : List Int := (cond (sl7Has x0 x1) x0 (((k1_sl7Put_w1 x0 x1).2.2.2).set (((k1_sl7Put_w1 x0 x1).2.2.1).toNat) ((k1_sl7Put_w1 x0 x1).2.1)))
noncomputable abbrev e_sl7Put_w1 (r : List Int) : AV × List AObj × List Nat := ((.t true (.sl (.int .i64)) r), [], [])
noncomputable abbrev g_sl7Put_w1 : SM_sl7Put_w1.den → AV × List AObj × List Nat := fun d => e_sl7Put_w1 (sl7Put_w1 d.1.1 d.1.2.1)
noncomputable def q_sl7Put_w1 (x0 : List Int) (x1 : Int) : Bool := (q_sl7Has x0 x1) && (cond (sl7Has x0 x1) true ((decide ((([] : List Int).length + x0.length) * 8 ≤ MAXB)) && ((decide (((([] : List Int) ++ x0).length + [x1].length) * 8 ≤ MAXB)) && (((k1_sl7Put_w1 x0 x1).1 == 0) && (decide (0 ≤ ((k1_sl7Put_w1 x0 x1).2.2.1) ∧ ((k1_sl7Put_w1 x0 x1).2.2.1) < ((((k1_sl7Put_w1 x0 x1).2.2.2).length : Nat) : Int)))))))
noncomputable abbrev pre_sl7Put_w1 : SM_sl7Put_w1.den → Bool := fun d => q_sl7Put_w1 d.1.1 d.1.2.1
theorem runA_sl7Put_w1 (x0 : List Int) (x1 : Int) (hp : ((q_sl7Has x0 x1) && (cond (sl7Has x0 x1) true ((decide ((([] : List Int).length + x0.length) * 8 ≤ MAXB)) && ((decide (((([] : List Int) ++ x0).length + [x1].length) * 8 ≤ MAXB)) && (((k1_sl7Put_w1 x0 x1).1 == 0) && (decide (0 ≤ ((k1_sl7Put_w1 x0 x1).2.2.1) ∧ ((k1_sl7Put_w1 x0 x1).2.2.1) < ((((k1_sl7Put_w1 x0 x1).2.2.2).length : Nat) : Int)))))))) = true) : runMR Try.prog tt S8 QF8 (fun b => match b with | 0 => say_sl7Put_w1_0 | _ => fun _ => none) Try.f137 (shsMk SM_sl7Put_w1.sl (((x0, x1, ()), ()) : SM_sl7Put_w1.den).1) (ohsMk SM_sl7Put_w1.hp (((x0, x1, ()), ()) : SM_sl7Put_w1.den).2) = some (g_sl7Put_w1 ((x0, x1, ()), ())) := by
  refine Eq.trans (b := (cond (q_sl7Has x0 x1) (cond (sl7Has x0 x1) (some (e_sl7Put_w1 x0)) (cond (decide ((([] : List Int).length + x0.length) * 8 ≤ MAXB)) (cond (decide (((([] : List Int) ++ x0).length + [x1].length) * 8 ≤ MAXB)) (cond ((k1_sl7Put_w1 x0 x1).1 == 0) (cond (decide (0 ≤ ((k1_sl7Put_w1 x0 x1).2.2.1) ∧ ((k1_sl7Put_w1 x0 x1).2.2.1) < ((((k1_sl7Put_w1 x0 x1).2.2.2).length : Nat) : Int))) (some (e_sl7Put_w1 (((k1_sl7Put_w1 x0 x1).2.2.2).set (((k1_sl7Put_w1 x0 x1).2.2.1).toNat) ((k1_sl7Put_w1 x0 x1).2.1)))) none) none) none) none)) none)) (by kernel_rfl) ?_
  exact (cndT (andL hp) (fun _h => (fun hp => (cndQ (F := fun r => some (e_sl7Put_w1 r)) hp (fun hp => rfl) (fun hp => (cndT (andL hp) (fun _h => (fun hp => (cndT (andL hp) (fun _h => (fun hp => (cndT (andL hp) (fun _h => (fun hp => (cndT hp (fun _h => rfl))) (andR hp)))) (andR hp)))) (andR hp)))))) (andR hp)))
theorem run_sl7Put_w1 : ∀ d : SM_sl7Put_w1.den, pre_sl7Put_w1 d = true → runMR Try.prog tt S8 QF8 (fun b => match b with | 0 => say_sl7Put_w1_0 | _ => fun _ => none) Try.f137 (shsMk SM_sl7Put_w1.sl (d : SM_sl7Put_w1.den).1) (ohsMk SM_sl7Put_w1.hp (d : SM_sl7Put_w1.den).2) = some (g_sl7Put_w1 d) := fun d hp => runA_sl7Put_w1 d.1.1 d.1.2.1 hp
theorem c_sl7Put_w1 : MContract Try.prog 137 (win winIds (msum SM_sl7Put_w1 pre_sl7Put_w1 g_sl7Put_w1)) := (MContract.of_dataR G8 (fn := Try.f137) (by kernel_rfl) (L := fun b => match b with | 0 => say_sl7Put_w1_0 | _ => fun _ => none) (by rw [show loopsIn 0 (bodyOf Try.f137) = [(0, body_sl7Put_w1_0)] by kernel_rfl]; intro p hp; simp only [List.mem_singleton] at hp; subst hp; exact lw_sl7Put_w1_0) SM_sl7Put_w1 pre_sl7Put_w1 g_sl7Put_w1 run_sl7Put_w1).win winIds
noncomputable def S9 : Tab := Tab.add S8 137 (orElseS (win winIds (msum SM_sl7Put pre_sl7Put g_sl7Put)) (win winIds (msum SM_sl7Put_w1 pre_sl7Put_w1 g_sl7Put_w1)))
noncomputable def QF9 : FuncId → Bool := QF8
theorem G9 : Good Try.prog tt S9 QF9 := G8.addM (MContract.orElse c_sl7Put c_sl7Put_w1) (orElse_local (win_local _) (win_local _)) ⟨Try.f137, by kernel_rfl, by kernel_rfl, by kernel_rfl⟩ (by kernel_rfl)

/-! 79 loop.example/g00244/spec.ShardsOf -/
noncomputable abbrev P_sShardsOf : List PSh := [.t (.sl (.pair (.int .i64) (.pair .str .str))), .t (.int .i64)]
noncomputable abbrev S_sShardsOf_0 : SS := ⟨[.t false (.sl (.pair (.int .i64) (.pair .str .str))), .t true (.int .i64), .junk, .junk, .junk, .t true (.sl (.int .i64)), .t true (.int .i64), .junk, .junk, .junk, .junk, .junk, .junk, .junk, .junk, .junk, .junk, .junk, .junk, .junk, .junk, .junk, .junk, .junk], []⟩
noncomputable abbrev E_sShardsOf_0_0 : SS := ⟨[.junk, .junk, .junk, .junk, .junk, .t true (.sl (.int .i64)), .junk, .junk, .junk, .junk, .junk, .junk, .junk, .junk, .junk, .junk, .junk, .junk, .junk, .junk, .junk, .junk, .junk, .junk], []⟩
noncomputable def k1_sShardsOf (x0 : List (Int × ByteArray × ByteArray)) (x1 : Int) (x6 : Int) := sShardOf (((x0.getD x6.toNat ((0 : Int), ((⟨#[]⟩ : ByteArray), (⟨#[]⟩ : ByteArray)))).2).1) x1
noncomputable def st_sShardsOf_0 (x0 : List (Int × ByteArray × ByteArray)) (x1 : Int) (x5 : List Int) (x6 : Int) : RT S_sShardsOf_0.den := (.br (decide (x6 < ((x0.length : Nat) : Int))) (.br (decide (0 ≤ x6 ∧ x6 < ((x0.length : Nat) : Int))) (.br (q_sShardOf (((x0.getD x6.toNat ((0 : Int), ((⟨#[]⟩ : ByteArray), (⟨#[]⟩ : ByteArray)))).2).1) x1) (.br (q_sl7Put_w1 x5 (k1_sShardsOf x0 x1 x6)) (.next ((x0, x1, (), (), (), (sl7Put_w1 x5 (k1_sShardsOf x0 x1 x6)), IntKind.wrap .i64 (x6 + (1 : Int)), (), (), (), (), (), (), (), (), (), (), (), (), (), (), (), (), (), ()), ())) .fail) .fail) .fail) (.done (.exit 0) E_sShardsOf_0_0 (((), (), (), (), (), x5, (), (), (), (), (), (), (), (), (), (), (), (), (), (), (), (), (), (), ()), ())))
noncomputable abbrev V_sShardsOf_0 := (List (Int × ByteArray × ByteArray)) × (Int) × (List Int) × (Int)
noncomputable abbrev A_sShardsOf_0 := Nat × (List Int)
noncomputable def fl_sShardsOf_0 : A_sShardsOf_0 := (99, ([] : List Int))
noncomputable def ss_sShardsOf_0 (x0 : List (Int × ByteArray × ByteArray)) (x1 : Int) (x5 : List Int) (x6 : Int) : V_sShardsOf_0 ⊕ A_sShardsOf_0 := (cond (decide (x6 < ((x0.length : Nat) : Int))) (cond (decide (0 ≤ x6 ∧ x6 < ((x0.length : Nat) : Int))) (cond (q_sShardOf (((x0.getD x6.toNat ((0 : Int), ((⟨#[]⟩ : ByteArray), (⟨#[]⟩ : ByteArray)))).2).1) x1) (cond (q_sl7Put_w1 x5 (k1_sShardsOf x0 x1 x6)) (.inl (x0, x1, (sl7Put_w1 x5 (k1_sShardsOf x0 x1 x6)), IntKind.wrap .i64 (x6 + (1 : Int)))) (.inr fl_sShardsOf_0)) (.inr fl_sShardsOf_0)) (.inr fl_sShardsOf_0)) (.inr (0, x5)))
noncomputable def it_sShardsOf_0 (x0 : List (Int × ByteArray × ByteArray)) (x1 : Int) (x5 : List Int) (x6 : Int) : A_sShardsOf_0 := itX (fun v : V_sShardsOf_0 => ss_sShardsOf_0 v.1 v.2.1 v.2.2.1 v.2.2.2) fl_sShardsOf_0 (x0, x1, x5, x6)
noncomputable def ct_sShardsOf_0 (a : A_sShardsOf_0) : CT := (.br (a.1 == 0) (.done (.exit 0) E_sShardsOf_0_0 (((), (), (), (), (), a.2, (), (), (), (), (), (), (), (), (), (), (), (), (), (), (), (), (), (), ()), ())) .fail)
noncomputable def T_sShardsOf_0 (x0 : List (Int × ByteArray × ByteArray)) (x1 : Int) (x5 : List Int) (x6 : Int) : CT := ct_sShardsOf_0 (it_sShardsOf_0 x0 x1 x5 x6)
noncomputable abbrev sp_sShardsOf_0 : S_sShardsOf_0.den → RT S_sShardsOf_0.den := fun d => st_sShardsOf_0 d.1.1 d.1.2.1 d.1.2.2.2.2.2.1 d.1.2.2.2.2.2.2.1
noncomputable abbrev pk_sShardsOf_0 (x0 : List (Int × ByteArray × ByteArray)) (x1 : Int) (x5 : List Int) (x6 : Int) : S_sShardsOf_0.den := ((x0, x1, (), (), (), x5, x6, (), (), (), (), (), (), (), (), (), (), (), (), (), (), (), (), (), ()), ())
noncomputable def body_sShardsOf_0 : Code := ((loopsIn 0 (bodyOf Try.f79)).getD 0 (0, .skip)).2
theorem R_sShardsOf_0 (x0 : List (Int × ByteArray × ByteArray)) (x1 : Int) (x5 : List Int) (x6 : Int) : (T_sShardsOf_0 x0 x1 x5 x6).val (D := S_sShardsOf_0.den) = .fail ∨ Runs sp_sShardsOf_0 (pk_sShardsOf_0 x0 x1 x5 x6) (T_sShardsOf_0 x0 x1 x5 x6).val := Runs.ofIt (step := sp_sShardsOf_0) (fun v : V_sShardsOf_0 => pk_sShardsOf_0 v.1 v.2.1 v.2.2.1 v.2.2.2) (ct := ct_sShardsOf_0) rfl (fun v => ((relB (relB (relB (relB rfl rfl) rfl) rfl) rfl) : (st_sShardsOf_0 v.1 v.2.1 v.2.2.1 v.2.2.2).val = relS (fun v : V_sShardsOf_0 => pk_sShardsOf_0 v.1 v.2.1 v.2.2.1 v.2.2.2) ct_sShardsOf_0 (ss_sShardsOf_0 v.1 v.2.1 v.2.2.1 v.2.2.2))) (fun a => ((cendB (cendD (by simp)) cendF) : CEnd _ (ct_sShardsOf_0 a))) (x0, x1, x5, x6)
theorem rd_sShardsOf_0 : ∀ d, execC Try.prog tt S9 QF9 (fun _ _ => none) 0 body_sShardsOf_0 (S_sShardsOf_0.st d 0 []) (fun e s' => some (e, S_sShardsOf_0.cutE (kepts [] [(0, [5])]) e s')) = (sp_sShardsOf_0 d).opt 0 [] := by
  intro d
  kernel_rfl
noncomputable abbrev say_sShardsOf_0 : St → Option Tree := S_sShardsOf_0.say 0 [] [(5, 1000000, .bool)] (fun d => T_sShardsOf_0 d.1.1 d.1.2.1 d.1.2.2.2.2.2.1 d.1.2.2.2.2.2.2.1)
theorem lw_sShardsOf_0 : LoopWp Try.prog say_sShardsOf_0 body_sShardsOf_0 := SS.wp G9 (fun _ _ => none) (by rw [show loopsIn 0 body_sShardsOf_0 = [] by kernel_rfl]; simp) S_sShardsOf_0 0 [] (kepts [] [(0, [5])]) [(5, 1000000, .bool)] sp_sShardsOf_0 rd_sShardsOf_0 _ (fun d => R_sShardsOf_0 d.1.1 d.1.2.1 d.1.2.2.2.2.2.1 d.1.2.2.2.2.2.2.1)
noncomputable def sShardsOf (a0 : List (Int × ByteArray × ByteArray)) (a1 : Int) : List Int := ((it_sShardsOf_0 a0 a1 ([] : List Int) (0 : Int)).2)
noncomputable abbrev e_sShardsOf (r : List Int) : AV × List AObj := ((.t true (.sl (.int .i64)) r), [])
noncomputable abbrev g_sShardsOf : pshsDen P_sShardsOf → AV × List AObj := fun d => e_sShardsOf (sShardsOf d.1 d.2.1)
noncomputable def q_sShardsOf (a0 : List (Int × ByteArray × ByteArray)) (a1 : Int) : Bool := ((it_sShardsOf_0 a0 a1 ([] : List Int) (0 : Int)).1 == 0)
noncomputable abbrev pre_sShardsOf : pshsDen P_sShardsOf → Bool := fun d => q_sShardsOf d.1 d.2.1
theorem runA_sShardsOf (a0 : List (Int × ByteArray × ByteArray)) (a1 : Int) (hp : (((it_sShardsOf_0 a0 a1 ([] : List Int) (0 : Int)).1 == 0)) = true) : runP true Try.prog tt S9 QF9 (fun b => match b with | 0 => say_sShardsOf_0 | _ => fun _ => none) Try.f79 (argsMk P_sShardsOf (a0, (a1, ()))) = some (g_sShardsOf (a0, (a1, ()))) := by
  refine Eq.trans (b := (cond ((it_sShardsOf_0 a0 a1 ([] : List Int) (0 : Int)).1 == 0) (some (e_sShardsOf ((it_sShardsOf_0 a0 a1 ([] : List Int) (0 : Int)).2))) none)) (by kernel_rfl) ?_
  exact (cndT hp (fun _h => rfl))
theorem run_sShardsOf : ∀ d, pre_sShardsOf d = true → runP true Try.prog tt S9 QF9 (fun b => match b with | 0 => say_sShardsOf_0 | _ => fun _ => none) Try.f79 (argsMk P_sShardsOf d) = some (g_sShardsOf d) := fun d hp => runA_sShardsOf d.1 d.2.1 hp
theorem c_sShardsOf : PContract Try.prog 79 (sumOf P_sShardsOf pre_sShardsOf g_sShardsOf) := PContract.of_data true G9 (fn := Try.f79) (by kernel_rfl) (L := fun b => match b with | 0 => say_sShardsOf_0 | _ => fun _ => none) (by rw [show loopsIn 0 (bodyOf Try.f79) = [(0, body_sShardsOf_0)] by kernel_rfl]; intro p hp; simp only [List.mem_singleton] at hp; subst hp; exact lw_sShardsOf_0) P_sShardsOf pre_sShardsOf g_sShardsOf run_sShardsOf
noncomputable def S10 : Tab := Tab.add S9 79 (lift (sumOf P_sShardsOf pre_sShardsOf g_sShardsOf))
noncomputable def QF10 : FuncId → Bool := qadd QF9 79
theorem G10 : Good Try.prog tt S10 QF10 := G9.addQ c_sShardsOf ⟨Try.f79, by kernel_rfl, by kernel_rfl, by kernel_rfl⟩ (fun _ => rfl)

/-! 135 loop.example/g00244/impl.Hash -/
noncomputable abbrev P_iHash : List PSh := [.t .str]
noncomputable abbrev S_iHash_0 : SS := ⟨[.t true .str, .junk, .junk, .t true (.int .u32), .t true (.int .i64), .junk, .junk, .junk, .junk, .junk, .junk, .junk, .junk, .junk, .junk, .junk, .junk, .junk, .junk, .junk, .junk], []⟩
noncomputable abbrev E_iHash_0_0 : SS := ⟨[.junk, .junk, .junk, .t true (.int .u32), .junk, .junk, .junk, .junk, .junk, .junk, .junk, .junk, .junk, .junk, .junk, .junk, .junk, .junk, .junk, .junk, .junk], []⟩
noncomputable def st_iHash_0 (x0 : ByteArray) (x3 : Int) (x4 : Int) : RT S_iHash_0.den := (.br (decide (x4 < ((x0.size : Nat) : Int))) (.br (decide (0 ≤ x4 ∧ x4 < ((x0.size : Nat) : Int))) (.next ((x0, (), (), IntKind.wrap .u32 ((ixor .u32 x3 (IntKind.wrap .u32 (bt x0 x4))) * (16777619 : Int)), IntKind.wrap .i64 (x4 + (1 : Int)), (), (), (), (), (), (), (), (), (), (), (), (), (), (), (), (), ()), ())) .fail) (.done (.exit 0) E_iHash_0_0 (((), (), (), x3, (), (), (), (), (), (), (), (), (), (), (), (), (), (), (), (), (), ()), ())))
noncomputable abbrev V_iHash_0 := (ByteArray) × (Int) × (Int)
noncomputable abbrev A_iHash_0 := Nat × (Int)
noncomputable def fl_iHash_0 : A_iHash_0 := (99, ((0 : Int) : Int))
noncomputable def ss_iHash_0 (x0 : ByteArray) (x3 : Int) (x4 : Int) : V_iHash_0 ⊕ A_iHash_0 := (cond (decide (x4 < ((x0.size : Nat) : Int))) (cond (decide (0 ≤ x4 ∧ x4 < ((x0.size : Nat) : Int))) (.inl (x0, IntKind.wrap .u32 ((ixor .u32 x3 (IntKind.wrap .u32 (bt x0 x4))) * (16777619 : Int)), IntKind.wrap .i64 (x4 + (1 : Int)))) (.inr fl_iHash_0)) (.inr (0, x3)))
noncomputable def it_iHash_0 (x0 : ByteArray) (x3 : Int) (x4 : Int) : A_iHash_0 := itX (fun v : V_iHash_0 => ss_iHash_0 v.1 v.2.1 v.2.2) fl_iHash_0 (x0, x3, x4)
noncomputable def ct_iHash_0 (a : A_iHash_0) : CT := (.br (a.1 == 0) (.done (.exit 0) E_iHash_0_0 (((), (), (), a.2, (), (), (), (), (), (), (), (), (), (), (), (), (), (), (), (), (), ()), ())) .fail)
noncomputable def T_iHash_0 (x0 : ByteArray) (x3 : Int) (x4 : Int) : CT := ct_iHash_0 (it_iHash_0 x0 x3 x4)
noncomputable abbrev sp_iHash_0 : S_iHash_0.den → RT S_iHash_0.den := fun d => st_iHash_0 d.1.1 d.1.2.2.2.1 d.1.2.2.2.2.1
noncomputable abbrev pk_iHash_0 (x0 : ByteArray) (x3 : Int) (x4 : Int) : S_iHash_0.den := ((x0, (), (), x3, x4, (), (), (), (), (), (), (), (), (), (), (), (), (), (), (), (), ()), ())
noncomputable def body_iHash_0 : Code := ((loopsIn 0 (bodyOf Try.f135)).getD 0 (0, .skip)).2
theorem R_iHash_0 (x0 : ByteArray) (x3 : Int) (x4 : Int) : (T_iHash_0 x0 x3 x4).val (D := S_iHash_0.den) = .fail ∨ Runs sp_iHash_0 (pk_iHash_0 x0 x3 x4) (T_iHash_0 x0 x3 x4).val := Runs.ofIt (step := sp_iHash_0) (fun v : V_iHash_0 => pk_iHash_0 v.1 v.2.1 v.2.2) (ct := ct_iHash_0) rfl (fun v => ((relB (relB rfl rfl) rfl) : (st_iHash_0 v.1 v.2.1 v.2.2).val = relS (fun v : V_iHash_0 => pk_iHash_0 v.1 v.2.1 v.2.2) ct_iHash_0 (ss_iHash_0 v.1 v.2.1 v.2.2))) (fun a => ((cendB (cendD (by simp)) cendF) : CEnd _ (ct_iHash_0 a))) (x0, x3, x4)
theorem rd_iHash_0 : ∀ d, execC Try.prog tt S10 QF10 (fun _ _ => none) 0 body_iHash_0 (S_iHash_0.st d 0 []) (fun e s' => some (e, S_iHash_0.cutE (kepts [] [(0, [3])]) e s')) = (sp_iHash_0 d).opt 0 [] := by
  intro d
  kernel_rfl
noncomputable abbrev say_iHash_0 : St → Option Tree := S_iHash_0.say 0 [] [] (fun d => T_iHash_0 d.1.1 d.1.2.2.2.1 d.1.2.2.2.2.1)
theorem lw_iHash_0 : LoopWp Try.prog say_iHash_0 body_iHash_0 := SS.wp G10 (fun _ _ => none) (by rw [show loopsIn 0 body_iHash_0 = [] by kernel_rfl]; simp) S_iHash_0 0 [] (kepts [] [(0, [3])]) [] sp_iHash_0 rd_iHash_0 _ (fun d => R_iHash_0 d.1.1 d.1.2.2.2.1 d.1.2.2.2.2.1)
noncomputable def iHash (a0 : ByteArray) : Int := (IntKind.wrap .i64 ((it_iHash_0 a0 (2166136261 : Int) (0 : Int)).2))
noncomputable abbrev e_iHash (r : Int) : AV × List AObj := ((.t true (.int .i64) r), [])
noncomputable abbrev g_iHash : pshsDen P_iHash → AV × List AObj := fun d => e_iHash (iHash d.1)
noncomputable def q_iHash (a0 : ByteArray) : Bool := ((it_iHash_0 a0 (2166136261 : Int) (0 : Int)).1 == 0)
noncomputable abbrev pre_iHash : pshsDen P_iHash → Bool := fun d => q_iHash d.1
theorem runA_iHash (a0 : ByteArray) (hp : (((it_iHash_0 a0 (2166136261 : Int) (0 : Int)).1 == 0)) = true) : runP true Try.prog tt S10 QF10 (fun b => match b with | 0 => say_iHash_0 | _ => fun _ => none) Try.f135 (argsMk P_iHash (a0, ())) = some (g_iHash (a0, ())) := by
  refine Eq.trans (b := (cond ((it_iHash_0 a0 (2166136261 : Int) (0 : Int)).1 == 0) (some (e_iHash (IntKind.wrap .i64 ((it_iHash_0 a0 (2166136261 : Int) (0 : Int)).2)))) none)) (by kernel_rfl) ?_
  exact (cndT hp (fun _h => rfl))
theorem run_iHash : ∀ d, pre_iHash d = true → runP true Try.prog tt S10 QF10 (fun b => match b with | 0 => say_iHash_0 | _ => fun _ => none) Try.f135 (argsMk P_iHash d) = some (g_iHash d) := fun d hp => runA_iHash d.1 hp
theorem c_iHash : PContract Try.prog 135 (sumOf P_iHash pre_iHash g_iHash) := PContract.of_data true G10 (fn := Try.f135) (by kernel_rfl) (L := fun b => match b with | 0 => say_iHash_0 | _ => fun _ => none) (by rw [show loopsIn 0 (bodyOf Try.f135) = [(0, body_iHash_0)] by kernel_rfl]; intro p hp; simp only [List.mem_singleton] at hp; subst hp; exact lw_iHash_0) P_iHash pre_iHash g_iHash run_iHash
noncomputable def S11 : Tab := Tab.add S10 135 (lift (sumOf P_iHash pre_iHash g_iHash))
noncomputable def QF11 : FuncId → Bool := qadd QF10 135
theorem G11 : Good Try.prog tt S11 QF11 := G10.addQ c_iHash ⟨Try.f135, by kernel_rfl, by kernel_rfl, by kernel_rfl⟩ (fun _ => rfl)

/-! 77 loop.example/g00244/impl.ShardOf -/
noncomputable abbrev P_iShardOf : List PSh := [.t .str, .t (.int .i64)]
noncomputable def iShardOf (a0 : ByteArray) (a1 : Int) : Int := (cond (decide (a1 < (1 : Int))) (0 : Int) (Int.tmod (iHash a0) a1))
noncomputable abbrev e_iShardOf (r : Int) : AV × List AObj := ((.t true (.int .i64) r), [])
noncomputable abbrev g_iShardOf : pshsDen P_iShardOf → AV × List AObj := fun d => e_iShardOf (iShardOf d.1 d.2.1)
noncomputable def q_iShardOf (a0 : ByteArray) (a1 : Int) : Bool := cond (decide (a1 < (1 : Int))) true ((q_iHash a0) && (decide (a1 ≠ 0)))
noncomputable abbrev pre_iShardOf : pshsDen P_iShardOf → Bool := fun d => q_iShardOf d.1 d.2.1
theorem runA_iShardOf (a0 : ByteArray) (a1 : Int) (hp : (cond (decide (a1 < (1 : Int))) true ((q_iHash a0) && (decide (a1 ≠ 0)))) = true) : runP true Try.prog tt S11 QF11 (fun _ _ => none) Try.f77 (argsMk P_iShardOf (a0, (a1, ()))) = some (g_iShardOf (a0, (a1, ()))) := by
  refine Eq.trans (b := (cond (decide (a1 < (1 : Int))) (some (e_iShardOf (0 : Int))) (cond (q_iHash a0) (cond (decide (a1 ≠ 0)) (some (e_iShardOf (Int.tmod (iHash a0) a1))) none) none))) (by kernel_rfl) ?_
  exact (cndQ (F := fun r => some (e_iShardOf r)) hp (fun hp => rfl) (fun hp => (cndT (andL hp) (fun _h => (fun hp => (cndT hp (fun _h => rfl))) (andR hp)))))
theorem run_iShardOf : ∀ d, pre_iShardOf d = true → runP true Try.prog tt S11 QF11 (fun _ _ => none) Try.f77 (argsMk P_iShardOf d) = some (g_iShardOf d) := fun d hp => runA_iShardOf d.1 d.2.1 hp
theorem c_iShardOf : PContract Try.prog 77 (sumOf P_iShardOf pre_iShardOf g_iShardOf) := PContract.of_data true G11 (fn := Try.f77) (by kernel_rfl) (L := fun _ _ => none) (by rw [show loopsIn 0 (bodyOf Try.f77) = [] by kernel_rfl]; simp) P_iShardOf pre_iShardOf g_iShardOf run_iShardOf
noncomputable def S12 : Tab := Tab.add S11 77 (lift (sumOf P_iShardOf pre_iShardOf g_iShardOf))
noncomputable def QF12 : FuncId → Bool := qadd QF11 77
theorem G12 : Good Try.prog tt S12 QF12 := G11.addQ c_iShardOf ⟨Try.f77, by kernel_rfl, by kernel_rfl, by kernel_rfl⟩ (fun _ => rfl)

/-! 131 slices.Sort[[]int,int] -/
noncomputable def S13 : Tab := Tab.add S12 131 (win winIds sortSum)
noncomputable def QF13 : FuncId → Bool := QF12
theorem G13 : Good Try.prog tt S13 QF13 := G12.addM c_sortInt (win_local _) ⟨Try.f131, by kernel_rfl, by kernel_rfl, by kernel_rfl⟩ (by kernel_rfl)

/-! 133 slices.Compact[[]int,int] -/
noncomputable def S14 : Tab := Tab.add S13 133 (win winIds compactSum)
noncomputable def QF14 : FuncId → Bool := QF13
theorem G14 : Good Try.prog tt S14 QF14 := G13.addM c_compactInt (win_local _) ⟨Try.f133, by kernel_rfl, by kernel_rfl, by kernel_rfl⟩ (by kernel_rfl)

/-! 132 slices.Clip[[]int,int] -/
noncomputable abbrev SM_slices_Clip_int : SS := ⟨[.arr 0 1], [.rows 3 true (.int .i64)]⟩
noncomputable def slices_Clip_int (x0a : Nat) (x0b : Nat) (h0 : List Int) : Nat × Nat × List Int := (x0a, ((x0b : Nat) : Int).toNat, h0)
noncomputable abbrev e_slices_Clip_int (r : Nat × Nat × List Int) : AV × List AObj × List Nat := ((.arr 0 1 r.1 r.2.1), [(.rows 3 true (.int .i64) r.2.2)], [])
noncomputable abbrev g_slices_Clip_int : SM_slices_Clip_int.den → AV × List AObj × List Nat := fun d => e_slices_Clip_int (slices_Clip_int d.1.1.1 d.1.1.2 d.2.1)
noncomputable def q_slices_Clip_int (x0a : Nat) (x0b : Nat) (h0 : List Int) : Bool := decide (0 ≤ ((x0b : Nat) : Int) ∧ ((x0b : Nat) : Int) ≤ ((x0b : Nat) : Int) ∧ ((x0b : Nat) : Int) ≤ ((x0b : Nat) : Int))
noncomputable abbrev pre_slices_Clip_int : SM_slices_Clip_int.den → Bool := fun d => q_slices_Clip_int d.1.1.1 d.1.1.2 d.2.1
theorem runA_slices_Clip_int (x0a : Nat) (x0b : Nat) (h0 : List Int) (hp : (decide (0 ≤ ((x0b : Nat) : Int) ∧ ((x0b : Nat) : Int) ≤ ((x0b : Nat) : Int) ∧ ((x0b : Nat) : Int) ≤ ((x0b : Nat) : Int))) = true) : runM Try.prog tt S14 QF14 (fun _ _ => none) Try.f132 (shsMk SM_slices_Clip_int.sl ((((x0a, x0b), ()), (h0, ())) : SM_slices_Clip_int.den).1) (ohsMk SM_slices_Clip_int.hp ((((x0a, x0b), ()), (h0, ())) : SM_slices_Clip_int.den).2) = some (g_slices_Clip_int (((x0a, x0b), ()), (h0, ()))) := by
  refine Eq.trans (b := (cond (decide (0 ≤ ((x0b : Nat) : Int) ∧ ((x0b : Nat) : Int) ≤ ((x0b : Nat) : Int) ∧ ((x0b : Nat) : Int) ≤ ((x0b : Nat) : Int))) (some (e_slices_Clip_int (x0a, ((x0b : Nat) : Int).toNat, h0))) none)) (by kernel_rfl) ?_
  exact (cndT hp (fun _h => rfl))
theorem run_slices_Clip_int : ∀ d : SM_slices_Clip_int.den, pre_slices_Clip_int d = true → runM Try.prog tt S14 QF14 (fun _ _ => none) Try.f132 (shsMk SM_slices_Clip_int.sl (d : SM_slices_Clip_int.den).1) (ohsMk SM_slices_Clip_int.hp (d : SM_slices_Clip_int.den).2) = some (g_slices_Clip_int d) := fun d hp => runA_slices_Clip_int d.1.1.1 d.1.1.2 d.2.1 hp
theorem c_slices_Clip_int : MContract Try.prog 132 (win winIds (msum SM_slices_Clip_int pre_slices_Clip_int g_slices_Clip_int)) := (MContract.of_data G14 (fn := Try.f132) (by kernel_rfl) (L := fun _ _ => none) (by rw [show loopsIn 0 (bodyOf Try.f132) = [] by kernel_rfl]; simp) SM_slices_Clip_int pre_slices_Clip_int g_slices_Clip_int run_slices_Clip_int).win winIds
noncomputable def S15 : Tab := Tab.add S14 132 (win winIds (msum SM_slices_Clip_int pre_slices_Clip_int g_slices_Clip_int))
noncomputable def QF15 : FuncId → Bool := QF14
theorem G15 : Good Try.prog tt S15 QF15 := G14.addM c_slices_Clip_int (win_local _) ⟨Try.f132, by kernel_rfl, by kernel_rfl, by kernel_rfl⟩ (by kernel_rfl)

/-! 74 loop.example/g00244/impl.ShardsOf -/
noncomputable abbrev P_iShardsOf : List PSh := [.t (.sl (.pair (.int .i64) (.pair .str .str))), .t (.int .i64)]
noncomputable abbrev S_iShardsOf_0 : SS := ⟨[.junk, .t true (.int .i64), .junk, .junk, .junk, .all 0 1, .junk, .junk, .t false (.sl (.pair (.int .i64) (.pair .str .str))), .t true (.int .i64), .t true (.int .i64), .junk, .junk, .junk, .junk, .junk, .junk, .junk, .junk, .junk, .junk, .junk, .junk, .junk, .junk, .junk, .junk], [.rows 3 true (.int .i64)]⟩
noncomputable abbrev E_iShardsOf_0_0 : SS := ⟨[.junk, .junk, .junk, .junk, .junk, .all 0 1, .junk, .junk, .junk, .junk, .junk, .junk, .junk, .junk, .junk, .junk, .junk, .junk, .junk, .junk, .junk, .junk, .junk, .junk, .junk, .junk, .junk], [.rows 3 true (.int .i64)]⟩
noncomputable def k1_iShardsOf (x1 : Int) (x8 : List (Int × ByteArray × ByteArray)) (x10 : Int) := iShardOf (((x8.getD x10.toNat ((0 : Int), ((⟨#[]⟩ : ByteArray), (⟨#[]⟩ : ByteArray)))).2).1) x1
noncomputable def st_iShardsOf_0 (x1 : Int) (x8 : List (Int × ByteArray × ByteArray)) (x9 : Int) (x10 : Int) (h0 : List Int) : RT S_iShardsOf_0.den := (.br (decide (x10 < x9)) (.br (decide (0 ≤ x10 ∧ x10 < ((x8.length : Nat) : Int))) (.br (q_iShardOf (((x8.getD x10.toNat ((0 : Int), ((⟨#[]⟩ : ByteArray), (⟨#[]⟩ : ByteArray)))).2).1) x1) (.br (decide ((h0.length + [(k1_iShardsOf x1 x8 x10)].length) * 8 ≤ MAXB)) (.next (((), x1, (), (), (), (), (), (), x8, x9, IntKind.wrap .i64 (x10 + (1 : Int)), (), (), (), (), (), (), (), (), (), (), (), (), (), (), (), (), ()), (h0 ++ [(k1_iShardsOf x1 x8 x10)], ()))) .fail) .fail) .fail) (.done (.exit 0) E_iShardsOf_0_0 (((), (), (), (), (), (), (), (), (), (), (), (), (), (), (), (), (), (), (), (), (), (), (), (), (), (), (), ()), (h0, ()))))
noncomputable abbrev V_iShardsOf_0 := (Int) × (List (Int × ByteArray × ByteArray)) × (Int) × (Int) × (List Int)
noncomputable abbrev A_iShardsOf_0 := Nat × (List Int)
noncomputable def fl_iShardsOf_0 : A_iShardsOf_0 := (99, ([] : List Int))
noncomputable def ss_iShardsOf_0 (x1 : Int) (x8 : List (Int × ByteArray × ByteArray)) (x9 : Int) (x10 : Int) (h0 : List Int) : V_iShardsOf_0 ⊕ A_iShardsOf_0 := (cond (decide (x10 < x9)) (cond (decide (0 ≤ x10 ∧ x10 < ((x8.length : Nat) : Int))) (cond (q_iShardOf (((x8.getD x10.toNat ((0 : Int), ((⟨#[]⟩ : ByteArray), (⟨#[]⟩ : ByteArray)))).2).1) x1) (cond (decide ((h0.length + [(k1_iShardsOf x1 x8 x10)].length) * 8 ≤ MAXB)) (.inl (x1, x8, x9, IntKind.wrap .i64 (x10 + (1 : Int)), h0 ++ [(k1_iShardsOf x1 x8 x10)])) (.inr fl_iShardsOf_0)) (.inr fl_iShardsOf_0)) (.inr fl_iShardsOf_0)) (.inr (0, h0)))
noncomputable def it_iShardsOf_0 (x1 : Int) (x8 : List (Int × ByteArray × ByteArray)) (x9 : Int) (x10 : Int) (h0 : List Int) : A_iShardsOf_0 := itX (fun v : V_iShardsOf_0 => ss_iShardsOf_0 v.1 v.2.1 v.2.2.1 v.2.2.2.1 v.2.2.2.2) fl_iShardsOf_0 (x1, x8, x9, x10, h0)
noncomputable def ct_iShardsOf_0 (a : A_iShardsOf_0) : CT := (.br (a.1 == 0) (.done (.exit 0) E_iShardsOf_0_0 (((), (), (), (), (), (), (), (), (), (), (), (), (), (), (), (), (), (), (), (), (), (), (), (), (), (), (), ()), (a.2, ()))) .fail)
noncomputable def T_iShardsOf_0 (x1 : Int) (x8 : List (Int × ByteArray × ByteArray)) (x9 : Int) (x10 : Int) (h0 : List Int) : CT := ct_iShardsOf_0 (it_iShardsOf_0 x1 x8 x9 x10 h0)
noncomputable abbrev sp_iShardsOf_0 : S_iShardsOf_0.den → RT S_iShardsOf_0.den := fun d => st_iShardsOf_0 d.1.2.1 d.1.2.2.2.2.2.2.2.2.1 d.1.2.2.2.2.2.2.2.2.2.1 d.1.2.2.2.2.2.2.2.2.2.2.1 d.2.1
noncomputable abbrev pk_iShardsOf_0 (x1 : Int) (x8 : List (Int × ByteArray × ByteArray)) (x9 : Int) (x10 : Int) (h0 : List Int) : S_iShardsOf_0.den := (((), x1, (), (), (), (), (), (), x8, x9, x10, (), (), (), (), (), (), (), (), (), (), (), (), (), (), (), (), ()), (h0, ()))
noncomputable def body_iShardsOf_0 : Code := ((loopsIn 0 (bodyOf Try.f74)).getD 0 (0, .skip)).2
theorem R_iShardsOf_0 (x1 : Int) (x8 : List (Int × ByteArray × ByteArray)) (x9 : Int) (x10 : Int) (h0 : List Int) : (T_iShardsOf_0 x1 x8 x9 x10 h0).val (D := S_iShardsOf_0.den) = .fail ∨ Runs sp_iShardsOf_0 (pk_iShardsOf_0 x1 x8 x9 x10 h0) (T_iShardsOf_0 x1 x8 x9 x10 h0).val := Runs.ofIt (step := sp_iShardsOf_0) (fun v : V_iShardsOf_0 => pk_iShardsOf_0 v.1 v.2.1 v.2.2.1 v.2.2.2.1 v.2.2.2.2) (ct := ct_iShardsOf_0) rfl (fun v => ((relB (relB (relB (relB rfl rfl) rfl) rfl) rfl) : (st_iShardsOf_0 v.1 v.2.1 v.2.2.1 v.2.2.2.1 v.2.2.2.2).val = relS (fun v : V_iShardsOf_0 => pk_iShardsOf_0 v.1 v.2.1 v.2.2.1 v.2.2.2.1 v.2.2.2.2) ct_iShardsOf_0 (ss_iShardsOf_0 v.1 v.2.1 v.2.2.1 v.2.2.2.1 v.2.2.2.2))) (fun a => ((cendB (cendD (by simp)) cendF) : CEnd _ (ct_iShardsOf_0 a))) (x1, x8, x9, x10, h0)
theorem rd_iShardsOf_0 : ∀ d, execC Try.prog tt S15 QF15 (fun _ _ => none) 0 body_iShardsOf_0 (S_iShardsOf_0.st d 0 []) (fun e s' => some (e, S_iShardsOf_0.cutE (kepts [] [(0, [5])]) e s')) = (sp_iShardsOf_0 d).opt 0 [] := by
  intro d
  kernel_rfl
noncomputable abbrev say_iShardsOf_0 : St → Option Tree := S_iShardsOf_0.say 0 [] [(5, 3, (.int .i64))] (fun d => T_iShardsOf_0 d.1.2.1 d.1.2.2.2.2.2.2.2.2.1 d.1.2.2.2.2.2.2.2.2.2.1 d.1.2.2.2.2.2.2.2.2.2.2.1 d.2.1)
theorem lw_iShardsOf_0 : LoopWp Try.prog say_iShardsOf_0 body_iShardsOf_0 := SS.wp G15 (fun _ _ => none) (by rw [show loopsIn 0 body_iShardsOf_0 = [] by kernel_rfl]; simp) S_iShardsOf_0 0 [] (kepts [] [(0, [5])]) [(5, 3, (.int .i64))] sp_iShardsOf_0 rd_iShardsOf_0 _ (fun d => R_iShardsOf_0 d.1.2.1 d.1.2.2.2.2.2.2.2.2.1 d.1.2.2.2.2.2.2.2.2.2.1 d.1.2.2.2.2.2.2.2.2.2.2.1 d.2.1)
noncomputable def k2_iShardsOf (a0 : List (Int × ByteArray × ByteArray)) (a1 : Int) := compactP (sortL ((it_iShardsOf_0 a1 a0 ((a0.length : Nat) : Int) (0 : Int) ([] : List Int)).2))
noncomputable def iShardsOf (a0 : List (Int × ByteArray × ByteArray)) (a1 : Int) : Nat × Nat × List Int := (((slices_Clip_int 0 ((k2_iShardsOf a0 a1).1) ((k2_iShardsOf a0 a1).2)).1), ((slices_Clip_int 0 ((k2_iShardsOf a0 a1).1) ((k2_iShardsOf a0 a1).2)).2.1), ((slices_Clip_int 0 ((k2_iShardsOf a0 a1).1) ((k2_iShardsOf a0 a1).2)).2.2))
noncomputable abbrev e_iShardsOf (r : Nat × Nat × List Int) : AV × List AObj := ((.arr 0 1 r.1 r.2.1), [(.rows 3 true (.int .i64) r.2.2)])
noncomputable abbrev g_iShardsOf : pshsDen P_iShardsOf → AV × List AObj := fun d => e_iShardsOf (iShardsOf d.1 d.2.1)
noncomputable def q_iShardsOf (a0 : List (Int × ByteArray × ByteArray)) (a1 : Int) : Bool := ((it_iShardsOf_0 a1 a0 ((a0.length : Nat) : Int) (0 : Int) ([] : List Int)).1 == 0) && ((q_sortL ((it_iShardsOf_0 a1 a0 ((a0.length : Nat) : Int) (0 : Int) ([] : List Int)).2)) && ((q_sortL (sortL ((it_iShardsOf_0 a1 a0 ((a0.length : Nat) : Int) (0 : Int) ([] : List Int)).2))) && (q_slices_Clip_int 0 ((k2_iShardsOf a0 a1).1) ((k2_iShardsOf a0 a1).2))))
noncomputable abbrev pre_iShardsOf : pshsDen P_iShardsOf → Bool := fun d => q_iShardsOf d.1 d.2.1
theorem runA_iShardsOf (a0 : List (Int × ByteArray × ByteArray)) (a1 : Int) (hp : (((it_iShardsOf_0 a1 a0 ((a0.length : Nat) : Int) (0 : Int) ([] : List Int)).1 == 0) && ((q_sortL ((it_iShardsOf_0 a1 a0 ((a0.length : Nat) : Int) (0 : Int) ([] : List Int)).2)) && ((q_sortL (sortL ((it_iShardsOf_0 a1 a0 ((a0.length : Nat) : Int) (0 : Int) ([] : List Int)).2))) && (q_slices_Clip_int 0 ((k2_iShardsOf a0 a1).1) ((k2_iShardsOf a0 a1).2))))) = true) : runP false Try.prog tt S15 QF15 (fun b => match b with | 0 => say_iShardsOf_0 | _ => fun _ => none) Try.f74 (argsMk P_iShardsOf (a0, (a1, ()))) = some (g_iShardsOf (a0, (a1, ()))) := by
  refine Eq.trans (b := (cond ((it_iShardsOf_0 a1 a0 ((a0.length : Nat) : Int) (0 : Int) ([] : List Int)).1 == 0) (cond (q_sortL ((it_iShardsOf_0 a1 a0 ((a0.length : Nat) : Int) (0 : Int) ([] : List Int)).2)) (cond (q_sortL (sortL ((it_iShardsOf_0 a1 a0 ((a0.length : Nat) : Int) (0 : Int) ([] : List Int)).2))) (cond (q_slices_Clip_int 0 ((k2_iShardsOf a0 a1).1) ((k2_iShardsOf a0 a1).2)) (some (e_iShardsOf (((slices_Clip_int 0 ((k2_iShardsOf a0 a1).1) ((k2_iShardsOf a0 a1).2)).1), ((slices_Clip_int 0 ((k2_iShardsOf a0 a1).1) ((k2_iShardsOf a0 a1).2)).2.1), ((slices_Clip_int 0 ((k2_iShardsOf a0 a1).1) ((k2_iShardsOf a0 a1).2)).2.2)))) none) none) none) none)) (by kernel_rfl) ?_
  exact (cndT (andL hp) (fun _h => (fun hp => (cndT (andL hp) (fun _h => (fun hp => (cndT (andL hp) (fun _h => (fun hp => (cndT hp (fun _h => rfl))) (andR hp)))) (andR hp)))) (andR hp)))
theorem run_iShardsOf : ∀ d, pre_iShardsOf d = true → runP false Try.prog tt S15 QF15 (fun b => match b with | 0 => say_iShardsOf_0 | _ => fun _ => none) Try.f74 (argsMk P_iShardsOf d) = some (g_iShardsOf d) := fun d hp => runA_iShardsOf d.1 d.2.1 hp
theorem c_iShardsOf : PContract Try.prog 74 (sumOf P_iShardsOf pre_iShardsOf g_iShardsOf) := PContract.of_data false G15 (fn := Try.f74) (by kernel_rfl) (L := fun b => match b with | 0 => say_iShardsOf_0 | _ => fun _ => none) (by rw [show loopsIn 0 (bodyOf Try.f74) = [(0, body_iShardsOf_0)] by kernel_rfl]; intro p hp; simp only [List.mem_singleton] at hp; subst hp; exact lw_iShardsOf_0) P_iShardsOf pre_iShardsOf g_iShardsOf run_iShardsOf
noncomputable def S16 : Tab := Tab.add S15 74 (lift (sumOf P_iShardsOf pre_iShardsOf g_iShardsOf))
noncomputable def QF16 : FuncId → Bool := QF15
theorem G16 : Good Try.prog tt S16 QF16 := G15.add c_iShardsOf ⟨Try.f74, by kernel_rfl, by kernel_rfl, by kernel_rfl⟩ (by kernel_rfl)

/-! 80 loop.example/g00244/laws.eqIntS -/

noncomputable def f_leqIntS_0 (x0 x1 : List Int) (i : Nat) : Bool := !((x0.getD i (0 : Int)) != (x1.getD i (0 : Int)))
noncomputable abbrev P_leqIntS : List PSh := [.t (.sl (.int .i64)), .t (.sl (.int .i64))]
noncomputable abbrev S_leqIntS_0 : SS := ⟨[.t false (.sl (.int .i64)), .t false (.sl (.int .i64)), .junk, .junk, .junk, .t true (.int .i64), .junk, .junk, .junk, .junk, .junk, .junk, .junk, .junk, .junk, .junk, .junk, .junk, .junk, .junk, .junk, .junk, .junk, .junk, .junk, .junk], []⟩
noncomputable abbrev E_leqIntS_0_0 : SS := ⟨[.junk, .junk, .junk, .junk, .t true .bool, .junk, .junk, .junk, .junk, .junk, .junk, .junk, .junk, .junk, .junk, .junk, .junk, .junk, .junk, .junk, .junk, .junk, .junk, .junk, .junk, .junk], []⟩
noncomputable abbrev E_leqIntS_0_1 : SS := ⟨[.junk, .junk, .junk, .junk, .junk, .junk, .junk, .junk, .junk, .junk, .junk, .junk, .junk, .junk, .junk, .junk, .junk, .junk, .junk, .junk, .junk, .junk, .junk, .junk, .junk, .junk], []⟩
noncomputable def st_leqIntS_0 (x0 : List Int) (x1 : List Int) (x5 : Int) : RT S_leqIntS_0.den := (.br (decide (x5 < ((x0.length : Nat) : Int))) (.br (decide (0 ≤ x5 ∧ x5 < ((x0.length : Nat) : Int))) (.br (decide (0 ≤ x5 ∧ x5 < ((x1.length : Nat) : Int))) (.br ((x0.getD x5.toNat (0 : Int)) != (x1.getD x5.toNat (0 : Int))) (.done .ret E_leqIntS_0_0 (((), (), (), (), false, (), (), (), (), (), (), (), (), (), (), (), (), (), (), (), (), (), (), (), (), (), ()), ())) (.next ((x0, x1, (), (), (), IntKind.wrap .i64 (x5 + (1 : Int)), (), (), (), (), (), (), (), (), (), (), (), (), (), (), (), (), (), (), (), (), ()), ()))) .fail) .fail) (.done (.exit 0) E_leqIntS_0_1 (((), (), (), (), (), (), (), (), (), (), (), (), (), (), (), (), (), (), (), (), (), (), (), (), (), (), ()), ())))
noncomputable def T_leqIntS_0 (x0 : List Int) (x1 : List Int) (x5 : Int) : CT := (.br (decide (0 ≤ x5) && (decide (x0.length = x1.length) && okL x0)) (.br (allF (f_leqIntS_0 x0 x1) (x0.length - x5.toNat) x5.toNat) (.done (.exit 0) E_leqIntS_0_1 (((), (), (), (), (), (), (), (), (), (), (), (), (), (), (), (), (), (), (), (), (), (), (), (), (), (), ()), ())) (.done .ret E_leqIntS_0_0 (((), (), (), (), false, (), (), (), (), (), (), (), (), (), (), (), (), (), (), (), (), (), (), (), (), (), ()), ()))) .fail)
noncomputable abbrev sp_leqIntS_0 : S_leqIntS_0.den → RT S_leqIntS_0.den := fun d => st_leqIntS_0 d.1.1 d.1.2.1 d.1.2.2.2.2.2.1
noncomputable abbrev pk_leqIntS_0 (x0 : List Int) (x1 : List Int) (x5 : Int) : S_leqIntS_0.den := ((x0, x1, (), (), (), x5, (), (), (), (), (), (), (), (), (), (), (), (), (), (), (), (), (), (), (), (), ()), ())
noncomputable def body_leqIntS_0 : Code := ((loopsIn 0 (bodyOf Try.f80)).getD 0 (0, .skip)).2
theorem R_leqIntS_0 (x0 : List Int) (x1 : List Int) (x5 : Int) : (T_leqIntS_0 x0 x1 x5).val (D := S_leqIntS_0.den) = .fail ∨ Runs sp_leqIntS_0 (pk_leqIntS_0 x0 x1 x5) (T_leqIntS_0 x0 x1 x5).val := by
  cases hc : (decide (0 ≤ x5) && (decide (x0.length = x1.length) && okL x0)) with
  | false => left; simp only [T_leqIntS_0, CT.val, hc, cond_false]
  | true =>
    right
    simp only [T_leqIntS_0, CT.val, hc, cond_true]
    simp only [Bool.and_eq_true, decide_eq_true_eq] at hc
    obtain ⟨i, rfl⟩ := Int.eq_ofNat_of_zero_le hc.1
    have hs := okL_le hc.2.2
    simp only [Int.toNat_natCast]
    refine Runs.scan (fun j => pk_leqIntS_0 x0 x1 (j : Int)) (x0.length) (f_leqIntS_0 x0 x1) (fun i hi => ?_) (fun i hi => ?_) ⟨_, _, _, rfl, by simp⟩ ⟨_, _, _, rfl, by simp⟩ _ _ rfl
    · 
      have h0a : decide ((i : Int) < ((x0.length : Nat) : Int)) = true := decide_eq_true (by omega)
      have h0b : decide (0 ≤ (i : Int) ∧ (i : Int) < ((x0.length : Nat) : Int)) = true := decide_eq_true (by omega)
      simp only [sp_leqIntS_0, st_leqIntS_0, RT.val, h0a, h0b, cond_true, wrapS i (by omega), Int.toNat_natCast]
      have h9 : decide (0 ≤ (i : Int) ∧ (i : Int) < ((x1.length : Nat) : Int)) = true := decide_eq_true (by omega)
      simp only [h9, cond_true]
      simp only [f_leqIntS_0]
      generalize ((x0.getD i (0 : Int)) != (x1.getD i (0 : Int))) = c
      cases c <;> rfl
    · have h1 : decide ((i : Int) < ((x0.length : Nat) : Int)) = false := decide_eq_false (by omega)
      simp only [sp_leqIntS_0, st_leqIntS_0, RT.val, h1, cond_false]
theorem rd_leqIntS_0 : ∀ d, execC Try.prog tt S16 QF16 (fun _ _ => none) 0 body_leqIntS_0 (S_leqIntS_0.st d 0 []) (fun e s' => some (e, S_leqIntS_0.cutE (kepts [4] [(0, [])]) e s')) = (sp_leqIntS_0 d).opt 0 [] := by
  intro d
  kernel_rfl
noncomputable abbrev say_leqIntS_0 : St → Option Tree := S_leqIntS_0.say 0 [] [] (fun d => T_leqIntS_0 d.1.1 d.1.2.1 d.1.2.2.2.2.2.1)
theorem lw_leqIntS_0 : LoopWp Try.prog say_leqIntS_0 body_leqIntS_0 := SS.wp G16 (fun _ _ => none) (by rw [show loopsIn 0 body_leqIntS_0 = [] by kernel_rfl]; simp) S_leqIntS_0 0 [] (kepts [4] [(0, [])]) [] sp_leqIntS_0 rd_leqIntS_0 _ (fun d => R_leqIntS_0 d.1.1 d.1.2.1 d.1.2.2.2.2.2.1)
noncomputable def leqIntS (a0 : List Int) (a1 : List Int) : Bool := (cond (((a0.length : Nat) : Int) != ((a1.length : Nat) : Int)) false (cond (allF (f_leqIntS_0 a0 a1) (a0.length - (0 : Int).toNat) (0 : Int).toNat) true false))
noncomputable abbrev e_leqIntS (r : Bool) : AV × List AObj := ((.t true .bool r), [])
noncomputable abbrev g_leqIntS : pshsDen P_leqIntS → AV × List AObj := fun d => e_leqIntS (leqIntS d.1 d.2.1)
noncomputable def q_leqIntS (a0 : List Int) (a1 : List Int) : Bool := okL a0
noncomputable abbrev pre_leqIntS : pshsDen P_leqIntS → Bool := fun d => q_leqIntS d.1 d.2.1
theorem runA_leqIntS (a0 : List Int) (a1 : List Int) (hp : (okL a0) = true) : runP true Try.prog tt S16 QF16 (fun b => match b with | 0 => say_leqIntS_0 | _ => fun _ => none) Try.f80 (argsMk P_leqIntS (a0, (a1, ()))) = some (g_leqIntS (a0, (a1, ()))) := by
  refine Eq.trans (b := (cond (((a0.length : Nat) : Int) != ((a1.length : Nat) : Int)) (some (e_leqIntS false)) (cond (decide (0 ≤ (0 : Int)) && (decide (a0.length = a1.length) && okL a0)) (cond (allF (f_leqIntS_0 a0 a1) (a0.length - (0 : Int).toNat) (0 : Int).toNat) (some (e_leqIntS true)) (some (e_leqIntS false))) none))) (by kernel_rfl) ?_
  exact (cnd (F := fun r => some (e_leqIntS r)) (fun _h => rfl) (fun _h => (cndT (by simp only [okL, Bool.and_eq_true, decide_eq_true_eq] at hp ⊢; simp at _h; exact ⟨Int.le_refl 0, by omega, hp⟩) (fun _h => (cnd (F := fun r => some (e_leqIntS r)) (fun _h => rfl) (fun _h => rfl))))))
theorem run_leqIntS : ∀ d, pre_leqIntS d = true → runP true Try.prog tt S16 QF16 (fun b => match b with | 0 => say_leqIntS_0 | _ => fun _ => none) Try.f80 (argsMk P_leqIntS d) = some (g_leqIntS d) := fun d hp => runA_leqIntS d.1 d.2.1 hp
theorem c_leqIntS : PContract Try.prog 80 (sumOf P_leqIntS pre_leqIntS g_leqIntS) := PContract.of_data true G16 (fn := Try.f80) (by kernel_rfl) (L := fun b => match b with | 0 => say_leqIntS_0 | _ => fun _ => none) (by rw [show loopsIn 0 (bodyOf Try.f80) = [(0, body_leqIntS_0)] by kernel_rfl]; intro p hp; simp only [List.mem_singleton] at hp; subst hp; exact lw_leqIntS_0) P_leqIntS pre_leqIntS g_leqIntS run_leqIntS
noncomputable def S17 : Tab := Tab.add S16 80 (lift (sumOf P_leqIntS pre_leqIntS g_leqIntS))
noncomputable def QF17 : FuncId → Bool := qadd QF16 80
theorem G17 : Good Try.prog tt S17 QF17 := G16.addQ c_leqIntS ⟨Try.f80, by kernel_rfl, by kernel_rfl, by kernel_rfl⟩ (fun _ => rfl)

/-! 111 loop.example/g00244/laws.eqOp -/
noncomputable abbrev P_leqOp : List PSh := [.agg [(.int .i64), .str, .str], .agg [(.int .i64), .str, .str]]
noncomputable def leqOp (a0 : Int) (a1 : ByteArray) (a2 : ByteArray) (a3 : Int) (a4 : ByteArray) (a5 : ByteArray) : Bool := (cond (a0 != a3) false (cond (!(a1.toList == a4.toList)) false (cond (!(a2.toList == a5.toList)) false true)))
noncomputable abbrev e_leqOp (r : Bool) : AV × List AObj := ((.t true .bool r), [])
noncomputable abbrev g_leqOp : pshsDen P_leqOp → AV × List AObj := fun d => e_leqOp (leqOp d.1.1 d.1.2.1 d.1.2.2.1 d.2.1.1 d.2.1.2.1 d.2.1.2.2.1)
noncomputable abbrev pre_leqOp : pshsDen P_leqOp → Bool := fun d => true
theorem runA_leqOp (a0 : Int) (a1 : ByteArray) (a2 : ByteArray) (a3 : Int) (a4 : ByteArray) (a5 : ByteArray) : runP true Try.prog tt S17 QF17 (fun _ _ => none) Try.f111 (argsMk P_leqOp ((a0, (a1, (a2, ()))), ((a3, (a4, (a5, ()))), ()))) = some (g_leqOp ((a0, (a1, (a2, ()))), ((a3, (a4, (a5, ()))), ()))) := by
  refine Eq.trans (b := (cond (a0 != a3) (some (e_leqOp false)) (cond (!(a1.toList == a4.toList)) (some (e_leqOp false)) (cond (!(a2.toList == a5.toList)) (some (e_leqOp false)) (some (e_leqOp true)))))) (by kernel_rfl) ?_
  exact (cnd (F := fun r => some (e_leqOp r)) (fun _h => rfl) (fun _h => (cnd (F := fun r => some (e_leqOp r)) (fun _h => rfl) (fun _h => (cnd (F := fun r => some (e_leqOp r)) (fun _h => rfl) (fun _h => rfl))))))
theorem run_leqOp : ∀ d, pre_leqOp d = true → runP true Try.prog tt S17 QF17 (fun _ _ => none) Try.f111 (argsMk P_leqOp d) = some (g_leqOp d) := fun d hp => runA_leqOp d.1.1 d.1.2.1 d.1.2.2.1 d.2.1.1 d.2.1.2.1 d.2.1.2.2.1
theorem c_leqOp : PContract Try.prog 111 (sumOf P_leqOp pre_leqOp g_leqOp) := PContract.of_data true G17 (fn := Try.f111) (by kernel_rfl) (L := fun _ _ => none) (by rw [show loopsIn 0 (bodyOf Try.f111) = [] by kernel_rfl]; simp) P_leqOp pre_leqOp g_leqOp run_leqOp
noncomputable def S18 : Tab := Tab.add S17 111 (lift (sumOf P_leqOp pre_leqOp g_leqOp))
noncomputable def QF18 : FuncId → Bool := qadd QF17 111
theorem G18 : Good Try.prog tt S18 QF18 := G17.addQ c_leqOp ⟨Try.f111, by kernel_rfl, by kernel_rfl, by kernel_rfl⟩ (fun _ => rfl)

/-! 48 loop.example/g00244/laws.eqOpS -/

noncomputable def f_leqOpS_0 (x0 x1 : List (Int × ByteArray × ByteArray)) (i : Nat) : Bool := !(!(leqOp ((x0.getD i ((0 : Int), ((⟨#[]⟩ : ByteArray), (⟨#[]⟩ : ByteArray)))).1) (((x0.getD i ((0 : Int), ((⟨#[]⟩ : ByteArray), (⟨#[]⟩ : ByteArray)))).2).1) (((x0.getD i ((0 : Int), ((⟨#[]⟩ : ByteArray), (⟨#[]⟩ : ByteArray)))).2).2) ((x1.getD i ((0 : Int), ((⟨#[]⟩ : ByteArray), (⟨#[]⟩ : ByteArray)))).1) (((x1.getD i ((0 : Int), ((⟨#[]⟩ : ByteArray), (⟨#[]⟩ : ByteArray)))).2).1) (((x1.getD i ((0 : Int), ((⟨#[]⟩ : ByteArray), (⟨#[]⟩ : ByteArray)))).2).2)))
noncomputable abbrev P_leqOpS : List PSh := [.t (.sl (.pair (.int .i64) (.pair .str .str))), .t (.sl (.pair (.int .i64) (.pair .str .str)))]
noncomputable abbrev S_leqOpS_0 : SS := ⟨[.t false (.sl (.pair (.int .i64) (.pair .str .str))), .t false (.sl (.pair (.int .i64) (.pair .str .str))), .junk, .junk, .junk, .t true (.int .i64), .junk, .junk, .junk, .junk, .junk, .junk, .junk, .junk, .junk, .junk, .junk, .junk, .junk, .junk, .junk, .junk, .junk, .junk, .junk, .junk, .junk], []⟩
noncomputable abbrev E_leqOpS_0_0 : SS := ⟨[.junk, .junk, .junk, .junk, .t true .bool, .junk, .junk, .junk, .junk, .junk, .junk, .junk, .junk, .junk, .junk, .junk, .junk, .junk, .junk, .junk, .junk, .junk, .junk, .junk, .junk, .junk, .junk], []⟩
noncomputable abbrev E_leqOpS_0_1 : SS := ⟨[.junk, .junk, .junk, .junk, .junk, .junk, .junk, .junk, .junk, .junk, .junk, .junk, .junk, .junk, .junk, .junk, .junk, .junk, .junk, .junk, .junk, .junk, .junk, .junk, .junk, .junk, .junk], []⟩
noncomputable def st_leqOpS_0 (x0 : List (Int × ByteArray × ByteArray)) (x1 : List (Int × ByteArray × ByteArray)) (x5 : Int) : RT S_leqOpS_0.den := (.br (decide (x5 < ((x0.length : Nat) : Int))) (.br (decide (0 ≤ x5 ∧ x5 < ((x0.length : Nat) : Int))) (.br (decide (0 ≤ x5 ∧ x5 < ((x1.length : Nat) : Int))) (.br (!(leqOp ((x0.getD x5.toNat ((0 : Int), ((⟨#[]⟩ : ByteArray), (⟨#[]⟩ : ByteArray)))).1) (((x0.getD x5.toNat ((0 : Int), ((⟨#[]⟩ : ByteArray), (⟨#[]⟩ : ByteArray)))).2).1) (((x0.getD x5.toNat ((0 : Int), ((⟨#[]⟩ : ByteArray), (⟨#[]⟩ : ByteArray)))).2).2) ((x1.getD x5.toNat ((0 : Int), ((⟨#[]⟩ : ByteArray), (⟨#[]⟩ : ByteArray)))).1) (((x1.getD x5.toNat ((0 : Int), ((⟨#[]⟩ : ByteArray), (⟨#[]⟩ : ByteArray)))).2).1) (((x1.getD x5.toNat ((0 : Int), ((⟨#[]⟩ : ByteArray), (⟨#[]⟩ : ByteArray)))).2).2))) (.done .ret E_leqOpS_0_0 (((), (), (), (), false, (), (), (), (), (), (), (), (), (), (), (), (), (), (), (), (), (), (), (), (), (), (), ()), ())) (.next ((x0, x1, (), (), (), IntKind.wrap .i64 (x5 + (1 : Int)), (), (), (), (), (), (), (), (), (), (), (), (), (), (), (), (), (), (), (), (), (), ()), ()))) .fail) .fail) (.done (.exit 0) E_leqOpS_0_1 (((), (), (), (), (), (), (), (), (), (), (), (), (), (), (), (), (), (), (), (), (), (), (), (), (), (), (), ()), ())))
noncomputable def T_leqOpS_0 (x0 : List (Int × ByteArray × ByteArray)) (x1 : List (Int × ByteArray × ByteArray)) (x5 : Int) : CT := (.br (decide (0 ≤ x5) && (decide (x0.length = x1.length) && okL x0)) (.br (allF (f_leqOpS_0 x0 x1) (x0.length - x5.toNat) x5.toNat) (.done (.exit 0) E_leqOpS_0_1 (((), (), (), (), (), (), (), (), (), (), (), (), (), (), (), (), (), (), (), (), (), (), (), (), (), (), (), ()), ())) (.done .ret E_leqOpS_0_0 (((), (), (), (), false, (), (), (), (), (), (), (), (), (), (), (), (), (), (), (), (), (), (), (), (), (), (), ()), ()))) .fail)
noncomputable abbrev sp_leqOpS_0 : S_leqOpS_0.den → RT S_leqOpS_0.den := fun d => st_leqOpS_0 d.1.1 d.1.2.1 d.1.2.2.2.2.2.1
noncomputable abbrev pk_leqOpS_0 (x0 : List (Int × ByteArray × ByteArray)) (x1 : List (Int × ByteArray × ByteArray)) (x5 : Int) : S_leqOpS_0.den := ((x0, x1, (), (), (), x5, (), (), (), (), (), (), (), (), (), (), (), (), (), (), (), (), (), (), (), (), (), ()), ())
noncomputable def body_leqOpS_0 : Code := ((loopsIn 0 (bodyOf Try.f48)).getD 0 (0, .skip)).2
theorem R_leqOpS_0 (x0 : List (Int × ByteArray × ByteArray)) (x1 : List (Int × ByteArray × ByteArray)) (x5 : Int) : (T_leqOpS_0 x0 x1 x5).val (D := S_leqOpS_0.den) = .fail ∨ Runs sp_leqOpS_0 (pk_leqOpS_0 x0 x1 x5) (T_leqOpS_0 x0 x1 x5).val := by
  cases hc : (decide (0 ≤ x5) && (decide (x0.length = x1.length) && okL x0)) with
  | false => left; simp only [T_leqOpS_0, CT.val, hc, cond_false]
  | true =>
    right
    simp only [T_leqOpS_0, CT.val, hc, cond_true]
    simp only [Bool.and_eq_true, decide_eq_true_eq] at hc
    obtain ⟨i, rfl⟩ := Int.eq_ofNat_of_zero_le hc.1
    have hs := okL_le hc.2.2
    simp only [Int.toNat_natCast]
    refine Runs.scan (fun j => pk_leqOpS_0 x0 x1 (j : Int)) (x0.length) (f_leqOpS_0 x0 x1) (fun i hi => ?_) (fun i hi => ?_) ⟨_, _, _, rfl, by simp⟩ ⟨_, _, _, rfl, by simp⟩ _ _ rfl
    · 
      have h0a : decide ((i : Int) < ((x0.length : Nat) : Int)) = true := decide_eq_true (by omega)
      have h0b : decide (0 ≤ (i : Int) ∧ (i : Int) < ((x0.length : Nat) : Int)) = true := decide_eq_true (by omega)
      simp only [sp_leqOpS_0, st_leqOpS_0, RT.val, h0a, h0b, cond_true, wrapS i (by omega), Int.toNat_natCast]
      have h9 : decide (0 ≤ (i : Int) ∧ (i : Int) < ((x1.length : Nat) : Int)) = true := decide_eq_true (by omega)
      simp only [h9, cond_true]
      simp only [f_leqOpS_0]
      generalize (!(leqOp ((x0.getD i ((0 : Int), ((⟨#[]⟩ : ByteArray), (⟨#[]⟩ : ByteArray)))).1) (((x0.getD i ((0 : Int), ((⟨#[]⟩ : ByteArray), (⟨#[]⟩ : ByteArray)))).2).1) (((x0.getD i ((0 : Int), ((⟨#[]⟩ : ByteArray), (⟨#[]⟩ : ByteArray)))).2).2) ((x1.getD i ((0 : Int), ((⟨#[]⟩ : ByteArray), (⟨#[]⟩ : ByteArray)))).1) (((x1.getD i ((0 : Int), ((⟨#[]⟩ : ByteArray), (⟨#[]⟩ : ByteArray)))).2).1) (((x1.getD i ((0 : Int), ((⟨#[]⟩ : ByteArray), (⟨#[]⟩ : ByteArray)))).2).2))) = c
      cases c <;> rfl
    · have h1 : decide ((i : Int) < ((x0.length : Nat) : Int)) = false := decide_eq_false (by omega)
      simp only [sp_leqOpS_0, st_leqOpS_0, RT.val, h1, cond_false]
theorem rd_leqOpS_0 : ∀ d, execC Try.prog tt S18 QF18 (fun _ _ => none) 0 body_leqOpS_0 (S_leqOpS_0.st d 0 []) (fun e s' => some (e, S_leqOpS_0.cutE (kepts [4] [(0, [])]) e s')) = (sp_leqOpS_0 d).opt 0 [] := by
  intro d
  kernel_rfl
noncomputable abbrev say_leqOpS_0 : St → Option Tree := S_leqOpS_0.say 0 [] [] (fun d => T_leqOpS_0 d.1.1 d.1.2.1 d.1.2.2.2.2.2.1)
theorem lw_leqOpS_0 : LoopWp Try.prog say_leqOpS_0 body_leqOpS_0 := SS.wp G18 (fun _ _ => none) (by rw [show loopsIn 0 body_leqOpS_0 = [] by kernel_rfl]; simp) S_leqOpS_0 0 [] (kepts [4] [(0, [])]) [] sp_leqOpS_0 rd_leqOpS_0 _ (fun d => R_leqOpS_0 d.1.1 d.1.2.1 d.1.2.2.2.2.2.1)
noncomputable def leqOpS (a0 : List (Int × ByteArray × ByteArray)) (a1 : List (Int × ByteArray × ByteArray)) : Bool := (cond (((a0.length : Nat) : Int) != ((a1.length : Nat) : Int)) false (cond (allF (f_leqOpS_0 a0 a1) (a0.length - (0 : Int).toNat) (0 : Int).toNat) true false))
noncomputable abbrev e_leqOpS (r : Bool) : AV × List AObj := ((.t true .bool r), [])
noncomputable abbrev g_leqOpS : pshsDen P_leqOpS → AV × List AObj := fun d => e_leqOpS (leqOpS d.1 d.2.1)
noncomputable def q_leqOpS (a0 : List (Int × ByteArray × ByteArray)) (a1 : List (Int × ByteArray × ByteArray)) : Bool := okL a0
noncomputable abbrev pre_leqOpS : pshsDen P_leqOpS → Bool := fun d => q_leqOpS d.1 d.2.1
theorem runA_leqOpS (a0 : List (Int × ByteArray × ByteArray)) (a1 : List (Int × ByteArray × ByteArray)) (hp : (okL a0) = true) : runP true Try.prog tt S18 QF18 (fun b => match b with | 0 => say_leqOpS_0 | _ => fun _ => none) Try.f48 (argsMk P_leqOpS (a0, (a1, ()))) = some (g_leqOpS (a0, (a1, ()))) := by
  refine Eq.trans (b := (cond (((a0.length : Nat) : Int) != ((a1.length : Nat) : Int)) (some (e_leqOpS false)) (cond (decide (0 ≤ (0 : Int)) && (decide (a0.length = a1.length) && okL a0)) (cond (allF (f_leqOpS_0 a0 a1) (a0.length - (0 : Int).toNat) (0 : Int).toNat) (some (e_leqOpS true)) (some (e_leqOpS false))) none))) (by kernel_rfl) ?_
  exact (cnd (F := fun r => some (e_leqOpS r)) (fun _h => rfl) (fun _h => (cndT (by simp only [okL, Bool.and_eq_true, decide_eq_true_eq] at hp ⊢; simp at _h; exact ⟨Int.le_refl 0, by omega, hp⟩) (fun _h => (cnd (F := fun r => some (e_leqOpS r)) (fun _h => rfl) (fun _h => rfl))))))
theorem run_leqOpS : ∀ d, pre_leqOpS d = true → runP true Try.prog tt S18 QF18 (fun b => match b with | 0 => say_leqOpS_0 | _ => fun _ => none) Try.f48 (argsMk P_leqOpS d) = some (g_leqOpS d) := fun d hp => runA_leqOpS d.1 d.2.1 hp
theorem c_leqOpS : PContract Try.prog 48 (sumOf P_leqOpS pre_leqOpS g_leqOpS) := PContract.of_data true G18 (fn := Try.f48) (by kernel_rfl) (L := fun b => match b with | 0 => say_leqOpS_0 | _ => fun _ => none) (by rw [show loopsIn 0 (bodyOf Try.f48) = [(0, body_leqOpS_0)] by kernel_rfl]; intro p hp; simp only [List.mem_singleton] at hp; subst hp; exact lw_leqOpS_0) P_leqOpS pre_leqOpS g_leqOpS run_leqOpS
noncomputable def S19 : Tab := Tab.add S18 48 (lift (sumOf P_leqOpS pre_leqOpS g_leqOpS))
noncomputable def QF19 : FuncId → Bool := qadd QF18 48
theorem G19 : Good Try.prog tt S19 QF19 := G18.addQ c_leqOpS ⟨Try.f48, by kernel_rfl, by kernel_rfl, by kernel_rfl⟩ (fun _ => rfl)

/-! 112 loop.example/g00244/laws.markText -/
noncomputable abbrev P_lmarkText : List PSh := [.t (.int .i64)]
noncomputable abbrev S_lmarkText_0 : SS := ⟨[.t true (.int .i64), .junk, .junk, .t true .str, .junk, .junk, .junk, .junk, .junk, .junk, .junk, .junk, .junk, .junk, .junk, .junk, .junk, .junk, .junk, .junk], []⟩
noncomputable abbrev E_lmarkText_0_0 : SS := ⟨[.junk, .junk, .junk, .t true .str, .junk, .junk, .junk, .junk, .junk, .junk, .junk, .junk, .junk, .junk, .junk, .junk, .junk, .junk, .junk, .junk], []⟩
noncomputable def st_lmarkText_0 (x0 : Int) (x3 : ByteArray) : RT S_lmarkText_0.den := (.br (decide (x0 > (0 : Int))) (.br (decide ((((⟨([IntKind.wrap .u8 (IntKind.wrap .i64 ((48 : Int) + (Int.tmod x0 (10 : Int))))].map fun n => UInt8.ofNat n.toNat).toArray⟩ : ByteArray).size + x3.size : Nat) : Int) ≤ IntKind.i64.max)) (.next ((IntKind.wrap .i64 (Int.tdiv x0 (10 : Int)), (), (), (⟨([IntKind.wrap .u8 (IntKind.wrap .i64 ((48 : Int) + (Int.tmod x0 (10 : Int))))].map fun n => UInt8.ofNat n.toNat).toArray⟩ : ByteArray) ++ x3, (), (), (), (), (), (), (), (), (), (), (), (), (), (), (), (), ()), ())) .fail) (.done (.exit 0) E_lmarkText_0_0 (((), (), (), x3, (), (), (), (), (), (), (), (), (), (), (), (), (), (), (), (), ()), ())))
noncomputable def T_lmarkText_0 (x0 : Int) (x3 : ByteArray) : CT := (.br (decide (x0 ≤ 1000000000000) && decide (x3.size ≤ 1000)) (.done (.exit 0) E_lmarkText_0_0 (((), (), (), (txtN 13 x0 x3), (), (), (), (), (), (), (), (), (), (), (), (), (), (), (), (), ()), ())) .fail)
noncomputable abbrev sp_lmarkText_0 : S_lmarkText_0.den → RT S_lmarkText_0.den := fun d => st_lmarkText_0 d.1.1 d.1.2.2.2.1
noncomputable abbrev pk_lmarkText_0 (x0 : Int) (x3 : ByteArray) : S_lmarkText_0.den := ((x0, (), (), x3, (), (), (), (), (), (), (), (), (), (), (), (), (), (), (), (), ()), ())
noncomputable def body_lmarkText_0 : Code := ((loopsIn 0 (bodyOf Try.f112)).getD 0 (0, .skip)).2
theorem R_lmarkText_0 (x0 : Int) (x3 : ByteArray) : (T_lmarkText_0 x0 x3).val (D := S_lmarkText_0.den) = .fail ∨ Runs sp_lmarkText_0 (pk_lmarkText_0 x0 x3) (T_lmarkText_0 x0 x3).val := by
  cases hc : (decide (x0 ≤ 1000000000000) && decide (x3.size ≤ 1000)) with
  | false => left; simp only [T_lmarkText_0, CT.val, hc, cond_false]
  | true =>
    right
    simp only [T_lmarkText_0, CT.val, hc, cond_true]
    simp only [Bool.and_eq_true, decide_eq_true_eq] at hc
    have key : ∀ (k : Nat) (x : Int) (s : ByteArray), x < 10 ^ k → x ≤ 1000000000000 → s.size + k ≤ 2000 → Runs sp_lmarkText_0 (pk_lmarkText_0 x s) (((.done (.exit 0) E_lmarkText_0_0 (((), (), (), (txtN k x s), (), (), (), (), (), (), (), (), (), (), (), (), (), (), (), (), ()), ())) : CT).val (D := S_lmarkText_0.den)) := by
      intro k
      induction k with
      | zero =>
        intro x s h1 h2 h3
        rw [show (10 : Int) ^ 0 = 1 from rfl] at h1
        have e1 : decide (x > (0 : Int)) = false := decide_eq_false (by omega)
        refine .done (by simp) ?_
        simp only [sp_lmarkText_0, st_lmarkText_0, RT.val, e1, cond_false, txtN]
      | succ k ih =>
        intro x s h1 h2 h3
        rw [Int.pow_succ] at h1
        by_cases hx : x > 0
        · have e1 : decide (x > (0 : Int)) = true := decide_eq_true hx
          have e2 : decide ((((digB x).size + s.size : Nat) : Int) ≤ IntKind.i64.max) = true := decide_eq_true (by rw [digB_size, show IntKind.i64.max = 9223372036854775807 from rfl]; omega)
          have e4 : Int.tdiv x (10 : Int) = x / 10 := Int.tdiv_eq_ediv_of_nonneg (by omega)
          have e5 : IntKind.wrap .i64 (Int.tdiv x (10 : Int)) = x / 10 := by rw [e4]; exact wrap64 (by omega) (by omega)
          have := ih (IntKind.wrap .i64 (Int.tdiv x (10 : Int))) (digB x ++ s) (by rw [e5]; omega) (by rw [e5]; omega) (by rw [ByteArray.size_append, digB_size]; omega)
          refine .next (d' := pk_lmarkText_0 (IntKind.wrap .i64 (Int.tdiv x (10 : Int))) (digB x ++ s)) ?_ ?_
          · have e6 : (sp_lmarkText_0 (pk_lmarkText_0 x s)).val = cond (decide ((((digB x).size + s.size : Nat) : Int) ≤ IntKind.i64.max)) (.next (pk_lmarkText_0 (IntKind.wrap .i64 (Int.tdiv x (10 : Int))) (digB x ++ s))) .fail := by
              simp only [sp_lmarkText_0, st_lmarkText_0, RT.val, e1, cond_true]; rfl
            rw [e6, e2]; rfl
          · have e3 : txtN (k + 1) x s = txtN k (IntKind.wrap .i64 (Int.tdiv x (10 : Int))) (digB x ++ s) := by simp only [txtN, e1, cond_true]
            rw [e3]
            exact this
        · have e1 : decide (x > (0 : Int)) = false := decide_eq_false hx
          refine .done (by simp) ?_
          simp only [sp_lmarkText_0, st_lmarkText_0, RT.val, e1, cond_false, txtN]
    exact key 13 x0 x3 (by have := hc.1; rw [show (10 : Int) ^ 13 = 10000000000000 from rfl]; omega) hc.1 (by have := hc.2; omega)
theorem rd_lmarkText_0 : ∀ d, execC Try.prog tt S19 QF19 (fun _ _ => none) 0 body_lmarkText_0 (S_lmarkText_0.st d 0 []) (fun e s' => some (e, S_lmarkText_0.cutE (kepts [] [(0, [3])]) e s')) = (sp_lmarkText_0 d).opt 0 [] := by
  intro d
  kernel_rfl
noncomputable abbrev say_lmarkText_0 : St → Option Tree := S_lmarkText_0.say 0 [] [] (fun d => T_lmarkText_0 d.1.1 d.1.2.2.2.1)
theorem lw_lmarkText_0 : LoopWp Try.prog say_lmarkText_0 body_lmarkText_0 := SS.wp G19 (fun _ _ => none) (by rw [show loopsIn 0 body_lmarkText_0 = [] by kernel_rfl]; simp) S_lmarkText_0 0 [] (kepts [] [(0, [3])]) [] sp_lmarkText_0 rd_lmarkText_0 _ (fun d => R_lmarkText_0 d.1.1 d.1.2.2.2.1)
noncomputable def lmarkText (a0 : Int) : ByteArray := (cond (decide (a0 ≤ (0 : Int))) (⟨#[109, 48]⟩ : ByteArray) ((⟨#[109]⟩ : ByteArray) ++ (txtN 13 a0 (⟨#[]⟩ : ByteArray))))
noncomputable abbrev e_lmarkText (r : ByteArray) : AV × List AObj := ((.t true .str r), [])
noncomputable abbrev g_lmarkText : pshsDen P_lmarkText → AV × List AObj := fun d => e_lmarkText (lmarkText d.1)
noncomputable def q_lmarkText (a0 : Int) : Bool := decide (a0 ≤ 1000000000000)
noncomputable abbrev pre_lmarkText : pshsDen P_lmarkText → Bool := fun d => q_lmarkText d.1
theorem runA_lmarkText (a0 : Int) (hp : (decide (a0 ≤ 1000000000000)) = true) : runP true Try.prog tt S19 QF19 (fun b => match b with | 0 => say_lmarkText_0 | _ => fun _ => none) Try.f112 (argsMk P_lmarkText (a0, ())) = some (g_lmarkText (a0, ())) := by
  refine Eq.trans (b := (cond (decide (a0 ≤ (0 : Int))) (some (e_lmarkText (⟨#[109, 48]⟩ : ByteArray))) (cond (decide (a0 ≤ 1000000000000) && decide ((⟨#[]⟩ : ByteArray).size ≤ 1000)) (cond (decide ((((⟨#[109]⟩ : ByteArray).size + (txtN 13 a0 (⟨#[]⟩ : ByteArray)).size : Nat) : Int) ≤ IntKind.i64.max)) (some (e_lmarkText ((⟨#[109]⟩ : ByteArray) ++ (txtN 13 a0 (⟨#[]⟩ : ByteArray))))) none) none))) (by kernel_rfl) ?_
  exact (cnd (F := fun r => some (e_lmarkText r)) (fun _h => rfl) (fun _h => (cndT (by rw [hp]; rfl) (fun _h => (cndT (by have h1 := txtN_len 13 a0 (⟨#[]⟩ : ByteArray); rw [decide_eq_true_eq]; have h2 : ((⟨#[]⟩ : ByteArray)).size = 0 := rfl; have h3 : ((⟨#[109]⟩ : ByteArray)).size = 1 := rfl; rw [h2] at h1; rw [h3, show IntKind.i64.max = 9223372036854775807 from rfl]; omega) (fun _h => rfl))))))
theorem run_lmarkText : ∀ d, pre_lmarkText d = true → runP true Try.prog tt S19 QF19 (fun b => match b with | 0 => say_lmarkText_0 | _ => fun _ => none) Try.f112 (argsMk P_lmarkText d) = some (g_lmarkText d) := fun d hp => runA_lmarkText d.1 hp
theorem c_lmarkText : PContract Try.prog 112 (sumOf P_lmarkText pre_lmarkText g_lmarkText) := PContract.of_data true G19 (fn := Try.f112) (by kernel_rfl) (L := fun b => match b with | 0 => say_lmarkText_0 | _ => fun _ => none) (by rw [show loopsIn 0 (bodyOf Try.f112) = [(0, body_lmarkText_0)] by kernel_rfl]; intro p hp; simp only [List.mem_singleton] at hp; subst hp; exact lw_lmarkText_0) P_lmarkText pre_lmarkText g_lmarkText run_lmarkText
noncomputable def S20 : Tab := Tab.add S19 112 (lift (sumOf P_lmarkText pre_lmarkText g_lmarkText))
noncomputable def QF20 : FuncId → Bool := qadd QF19 112
theorem G20 : Good Try.prog tt S20 QF20 := G19.addQ c_lmarkText ⟨Try.f112, by kernel_rfl, by kernel_rfl, by kernel_rfl⟩ (fun _ => rfl)

/-! 50 loop.example/g00244/laws.markOpS -/

noncomputable def f_lmarkOpS_0 (i : Nat) (b : Int × List (Int × ByteArray × ByteArray)) : Int × List (Int × ByteArray × ByteArray) := (IntKind.wrap .i64 ((IntKind.wrap .i64 ((IntKind.wrap .i64 (b.1 + (1 : Int))) + (1 : Int))) + (1 : Int)), ((b.2.set i (b.1, (((b.2.getD i ((0 : Int), ((⟨#[]⟩ : ByteArray), (⟨#[]⟩ : ByteArray)))).2).1, ((b.2.getD i ((0 : Int), ((⟨#[]⟩ : ByteArray), (⟨#[]⟩ : ByteArray)))).2).2))).set i (((b.2.set i (b.1, (((b.2.getD i ((0 : Int), ((⟨#[]⟩ : ByteArray), (⟨#[]⟩ : ByteArray)))).2).1, ((b.2.getD i ((0 : Int), ((⟨#[]⟩ : ByteArray), (⟨#[]⟩ : ByteArray)))).2).2))).getD i ((0 : Int), ((⟨#[]⟩ : ByteArray), (⟨#[]⟩ : ByteArray)))).1, ((lmarkText (IntKind.wrap .i64 (b.1 + (1 : Int)))), (((b.2.set i (b.1, (((b.2.getD i ((0 : Int), ((⟨#[]⟩ : ByteArray), (⟨#[]⟩ : ByteArray)))).2).1, ((b.2.getD i ((0 : Int), ((⟨#[]⟩ : ByteArray), (⟨#[]⟩ : ByteArray)))).2).2))).getD i ((0 : Int), ((⟨#[]⟩ : ByteArray), (⟨#[]⟩ : ByteArray)))).2).2))).set i ((((b.2.set i (b.1, (((b.2.getD i ((0 : Int), ((⟨#[]⟩ : ByteArray), (⟨#[]⟩ : ByteArray)))).2).1, ((b.2.getD i ((0 : Int), ((⟨#[]⟩ : ByteArray), (⟨#[]⟩ : ByteArray)))).2).2))).set i (((b.2.set i (b.1, (((b.2.getD i ((0 : Int), ((⟨#[]⟩ : ByteArray), (⟨#[]⟩ : ByteArray)))).2).1, ((b.2.getD i ((0 : Int), ((⟨#[]⟩ : ByteArray), (⟨#[]⟩ : ByteArray)))).2).2))).getD i ((0 : Int), ((⟨#[]⟩ : ByteArray), (⟨#[]⟩ : ByteArray)))).1, ((lmarkText (IntKind.wrap .i64 (b.1 + (1 : Int)))), (((b.2.set i (b.1, (((b.2.getD i ((0 : Int), ((⟨#[]⟩ : ByteArray), (⟨#[]⟩ : ByteArray)))).2).1, ((b.2.getD i ((0 : Int), ((⟨#[]⟩ : ByteArray), (⟨#[]⟩ : ByteArray)))).2).2))).getD i ((0 : Int), ((⟨#[]⟩ : ByteArray), (⟨#[]⟩ : ByteArray)))).2).2))).getD i ((0 : Int), ((⟨#[]⟩ : ByteArray), (⟨#[]⟩ : ByteArray)))).1, (((((b.2.set i (b.1, (((b.2.getD i ((0 : Int), ((⟨#[]⟩ : ByteArray), (⟨#[]⟩ : ByteArray)))).2).1, ((b.2.getD i ((0 : Int), ((⟨#[]⟩ : ByteArray), (⟨#[]⟩ : ByteArray)))).2).2))).set i (((b.2.set i (b.1, (((b.2.getD i ((0 : Int), ((⟨#[]⟩ : ByteArray), (⟨#[]⟩ : ByteArray)))).2).1, ((b.2.getD i ((0 : Int), ((⟨#[]⟩ : ByteArray), (⟨#[]⟩ : ByteArray)))).2).2))).getD i ((0 : Int), ((⟨#[]⟩ : ByteArray), (⟨#[]⟩ : ByteArray)))).1, ((lmarkText (IntKind.wrap .i64 (b.1 + (1 : Int)))), (((b.2.set i (b.1, (((b.2.getD i ((0 : Int), ((⟨#[]⟩ : ByteArray), (⟨#[]⟩ : ByteArray)))).2).1, ((b.2.getD i ((0 : Int), ((⟨#[]⟩ : ByteArray), (⟨#[]⟩ : ByteArray)))).2).2))).getD i ((0 : Int), ((⟨#[]⟩ : ByteArray), (⟨#[]⟩ : ByteArray)))).2).2))).getD i ((0 : Int), ((⟨#[]⟩ : ByteArray), (⟨#[]⟩ : ByteArray)))).2).1, (lmarkText (IntKind.wrap .i64 ((IntKind.wrap .i64 (b.1 + (1 : Int))) + (1 : Int)))))))
noncomputable abbrev SM_lmarkOpS : SS := ⟨[.all 0 3, .t true (.int .i64)], [.rows 85 true (.pair (.int .i64) (.pair .str .str))]⟩
noncomputable abbrev S_lmarkOpS_0 : SS := ⟨[.all 0 3, .t true (.int .i64), .junk, .junk, .junk, .t true (.int .i64), .junk, .junk, .junk, .junk, .junk, .junk, .junk, .junk, .junk, .junk, .junk, .junk, .junk, .junk, .junk, .junk, .junk, .junk, .junk, .junk, .junk, .junk, .junk, .junk, .junk, .junk, .junk, .junk, .junk, .junk], [.rows 85 true (.pair (.int .i64) (.pair .str .str))]⟩
noncomputable abbrev E_lmarkOpS_0_0 : SS := ⟨[.junk, .t true (.int .i64), .junk, .junk, .junk, .junk, .junk, .junk, .junk, .junk, .junk, .junk, .junk, .junk, .junk, .junk, .junk, .junk, .junk, .junk, .junk, .junk, .junk, .junk, .junk, .junk, .junk, .junk, .junk, .junk, .junk, .junk, .junk, .junk, .junk, .junk], [.rows 85 true (.pair (.int .i64) (.pair .str .str))]⟩
noncomputable def st_lmarkOpS_0 (x1 : Int) (x5 : Int) (h0 : List (Int × ByteArray × ByteArray)) : RT S_lmarkOpS_0.den := (.br (decide (x5 < ((h0.length : Nat) : Int))) (.br (decide (0 ≤ x5 ∧ x5 < ((h0.length : Nat) : Int))) (.br (q_lmarkText (IntKind.wrap .i64 (x1 + (1 : Int)))) (.br (decide (0 ≤ x5 ∧ x5 < (((h0.set x5.toNat (x1, (((h0.getD x5.toNat ((0 : Int), ((⟨#[]⟩ : ByteArray), (⟨#[]⟩ : ByteArray)))).2).1, ((h0.getD x5.toNat ((0 : Int), ((⟨#[]⟩ : ByteArray), (⟨#[]⟩ : ByteArray)))).2).2))).length : Nat) : Int))) (.br (q_lmarkText (IntKind.wrap .i64 ((IntKind.wrap .i64 (x1 + (1 : Int))) + (1 : Int)))) (.br (decide (0 ≤ x5 ∧ x5 < ((((h0.set x5.toNat (x1, (((h0.getD x5.toNat ((0 : Int), ((⟨#[]⟩ : ByteArray), (⟨#[]⟩ : ByteArray)))).2).1, ((h0.getD x5.toNat ((0 : Int), ((⟨#[]⟩ : ByteArray), (⟨#[]⟩ : ByteArray)))).2).2))).set x5.toNat (((h0.set x5.toNat (x1, (((h0.getD x5.toNat ((0 : Int), ((⟨#[]⟩ : ByteArray), (⟨#[]⟩ : ByteArray)))).2).1, ((h0.getD x5.toNat ((0 : Int), ((⟨#[]⟩ : ByteArray), (⟨#[]⟩ : ByteArray)))).2).2))).getD x5.toNat ((0 : Int), ((⟨#[]⟩ : ByteArray), (⟨#[]⟩ : ByteArray)))).1, ((lmarkText (IntKind.wrap .i64 (x1 + (1 : Int)))), (((h0.set x5.toNat (x1, (((h0.getD x5.toNat ((0 : Int), ((⟨#[]⟩ : ByteArray), (⟨#[]⟩ : ByteArray)))).2).1, ((h0.getD x5.toNat ((0 : Int), ((⟨#[]⟩ : ByteArray), (⟨#[]⟩ : ByteArray)))).2).2))).getD x5.toNat ((0 : Int), ((⟨#[]⟩ : ByteArray), (⟨#[]⟩ : ByteArray)))).2).2))).length : Nat) : Int))) (.next (((), IntKind.wrap .i64 ((IntKind.wrap .i64 ((IntKind.wrap .i64 (x1 + (1 : Int))) + (1 : Int))) + (1 : Int)), (), (), (), IntKind.wrap .i64 (x5 + (1 : Int)), (), (), (), (), (), (), (), (), (), (), (), (), (), (), (), (), (), (), (), (), (), (), (), (), (), (), (), (), (), (), ()), (((h0.set x5.toNat (x1, (((h0.getD x5.toNat ((0 : Int), ((⟨#[]⟩ : ByteArray), (⟨#[]⟩ : ByteArray)))).2).1, ((h0.getD x5.toNat ((0 : Int), ((⟨#[]⟩ : ByteArray), (⟨#[]⟩ : ByteArray)))).2).2))).set x5.toNat (((h0.set x5.toNat (x1, (((h0.getD x5.toNat ((0 : Int), ((⟨#[]⟩ : ByteArray), (⟨#[]⟩ : ByteArray)))).2).1, ((h0.getD x5.toNat ((0 : Int), ((⟨#[]⟩ : ByteArray), (⟨#[]⟩ : ByteArray)))).2).2))).getD x5.toNat ((0 : Int), ((⟨#[]⟩ : ByteArray), (⟨#[]⟩ : ByteArray)))).1, ((lmarkText (IntKind.wrap .i64 (x1 + (1 : Int)))), (((h0.set x5.toNat (x1, (((h0.getD x5.toNat ((0 : Int), ((⟨#[]⟩ : ByteArray), (⟨#[]⟩ : ByteArray)))).2).1, ((h0.getD x5.toNat ((0 : Int), ((⟨#[]⟩ : ByteArray), (⟨#[]⟩ : ByteArray)))).2).2))).getD x5.toNat ((0 : Int), ((⟨#[]⟩ : ByteArray), (⟨#[]⟩ : ByteArray)))).2).2))).set x5.toNat ((((h0.set x5.toNat (x1, (((h0.getD x5.toNat ((0 : Int), ((⟨#[]⟩ : ByteArray), (⟨#[]⟩ : ByteArray)))).2).1, ((h0.getD x5.toNat ((0 : Int), ((⟨#[]⟩ : ByteArray), (⟨#[]⟩ : ByteArray)))).2).2))).set x5.toNat (((h0.set x5.toNat (x1, (((h0.getD x5.toNat ((0 : Int), ((⟨#[]⟩ : ByteArray), (⟨#[]⟩ : ByteArray)))).2).1, ((h0.getD x5.toNat ((0 : Int), ((⟨#[]⟩ : ByteArray), (⟨#[]⟩ : ByteArray)))).2).2))).getD x5.toNat ((0 : Int), ((⟨#[]⟩ : ByteArray), (⟨#[]⟩ : ByteArray)))).1, ((lmarkText (IntKind.wrap .i64 (x1 + (1 : Int)))), (((h0.set x5.toNat (x1, (((h0.getD x5.toNat ((0 : Int), ((⟨#[]⟩ : ByteArray), (⟨#[]⟩ : ByteArray)))).2).1, ((h0.getD x5.toNat ((0 : Int), ((⟨#[]⟩ : ByteArray), (⟨#[]⟩ : ByteArray)))).2).2))).getD x5.toNat ((0 : Int), ((⟨#[]⟩ : ByteArray), (⟨#[]⟩ : ByteArray)))).2).2))).getD x5.toNat ((0 : Int), ((⟨#[]⟩ : ByteArray), (⟨#[]⟩ : ByteArray)))).1, (((((h0.set x5.toNat (x1, (((h0.getD x5.toNat ((0 : Int), ((⟨#[]⟩ : ByteArray), (⟨#[]⟩ : ByteArray)))).2).1, ((h0.getD x5.toNat ((0 : Int), ((⟨#[]⟩ : ByteArray), (⟨#[]⟩ : ByteArray)))).2).2))).set x5.toNat (((h0.set x5.toNat (x1, (((h0.getD x5.toNat ((0 : Int), ((⟨#[]⟩ : ByteArray), (⟨#[]⟩ : ByteArray)))).2).1, ((h0.getD x5.toNat ((0 : Int), ((⟨#[]⟩ : ByteArray), (⟨#[]⟩ : ByteArray)))).2).2))).getD x5.toNat ((0 : Int), ((⟨#[]⟩ : ByteArray), (⟨#[]⟩ : ByteArray)))).1, ((lmarkText (IntKind.wrap .i64 (x1 + (1 : Int)))), (((h0.set x5.toNat (x1, (((h0.getD x5.toNat ((0 : Int), ((⟨#[]⟩ : ByteArray), (⟨#[]⟩ : ByteArray)))).2).1, ((h0.getD x5.toNat ((0 : Int), ((⟨#[]⟩ : ByteArray), (⟨#[]⟩ : ByteArray)))).2).2))).getD x5.toNat ((0 : Int), ((⟨#[]⟩ : ByteArray), (⟨#[]⟩ : ByteArray)))).2).2))).getD x5.toNat ((0 : Int), ((⟨#[]⟩ : ByteArray), (⟨#[]⟩ : ByteArray)))).2).1, (lmarkText (IntKind.wrap .i64 ((IntKind.wrap .i64 (x1 + (1 : Int))) + (1 : Int)))))), ()))) .fail) .fail) .fail) .fail) .fail) (.done (.exit 0) E_lmarkOpS_0_0 (((), x1, (), (), (), (), (), (), (), (), (), (), (), (), (), (), (), (), (), (), (), (), (), (), (), (), (), (), (), (), (), (), (), (), (), (), ()), (h0, ()))))
noncomputable def T_lmarkOpS_0 (x1 : Int) (x5 : Int) (h0 : List (Int × ByteArray × ByteArray)) : CT := (.br (decide (0 ≤ x5) && (decide (0 ≤ x1 ∧ x1 ≤ 100000 * (x5 + 1)) && okL h0)) (.done (.exit 0) E_lmarkOpS_0_0 (((), ((foldN f_lmarkOpS_0 (h0.length - x5.toNat) x5.toNat (x1, h0)).1), (), (), (), (), (), (), (), (), (), (), (), (), (), (), (), (), (), (), (), (), (), (), (), (), (), (), (), (), (), (), (), (), (), (), ()), (((foldN f_lmarkOpS_0 (h0.length - x5.toNat) x5.toNat (x1, h0)).2), ()))) .fail)
noncomputable abbrev sp_lmarkOpS_0 : S_lmarkOpS_0.den → RT S_lmarkOpS_0.den := fun d => st_lmarkOpS_0 d.1.2.1 d.1.2.2.2.2.2.1 d.2.1
noncomputable abbrev pk_lmarkOpS_0 (x1 : Int) (x5 : Int) (h0 : List (Int × ByteArray × ByteArray)) : S_lmarkOpS_0.den := (((), x1, (), (), (), x5, (), (), (), (), (), (), (), (), (), (), (), (), (), (), (), (), (), (), (), (), (), (), (), (), (), (), (), (), (), (), ()), (h0, ()))
noncomputable def body_lmarkOpS_0 : Code := ((loopsIn 0 (bodyOf Try.f50)).getD 0 (0, .skip)).2
theorem R_lmarkOpS_0 (x1 : Int) (x5 : Int) (h0 : List (Int × ByteArray × ByteArray)) : (T_lmarkOpS_0 x1 x5 h0).val (D := S_lmarkOpS_0.den) = .fail ∨ Runs sp_lmarkOpS_0 (pk_lmarkOpS_0 x1 x5 h0) (T_lmarkOpS_0 x1 x5 h0).val := by
  cases hc : (decide (0 ≤ x5) && (decide (0 ≤ x1 ∧ x1 ≤ 100000 * (x5 + 1)) && okL h0)) with
  | false => left; simp only [T_lmarkOpS_0, CT.val, hc, cond_false]
  | true =>
    right
    simp only [T_lmarkOpS_0, CT.val, hc, cond_true]
    simp only [Bool.and_eq_true, decide_eq_true_eq] at hc
    obtain ⟨i, rfl⟩ := Int.eq_ofNat_of_zero_le hc.1
    have hs := okL_le hc.2.2
    have hk := hc.2.1
    simp only [Int.toNat_natCast]
    refine Runs.foldN (step := sp_lmarkOpS_0) (fun j b => pk_lmarkOpS_0 b.1 (j : Int) b.2) (fun i b => (0 ≤ b.1 ∧ b.1 ≤ 100000 * ((i : Int) + 1)) ∧ b.2.length = h0.length) (h0.length) f_lmarkOpS_0
      (fin := fun b => ((.done (.exit 0) E_lmarkOpS_0_0 (((), b.1, (), (), (), (), (), (), (), (), (), (), (), (), (), (), (), (), (), (), (), (), (), (), (), (), (), (), (), (), (), (), (), (), (), (), ()), (b.2, ()))) : CT).val) (fun i b hi hb => ?_) (fun i b hi hb => ?_) (h0.length - i) i (x1, h0) rfl ⟨hk, rfl⟩
    · obtain ⟨k, h⟩ := b
      obtain ⟨hb1, hb2⟩ := hb
      simp only at hb1 hb2
      have w1 : IntKind.wrap .i64 (k + (1 : Int)) = k + (1 : Int) := wrap64 (by omega) (by omega)
      have w2 : IntKind.wrap .i64 (k + (1 : Int) + (1 : Int)) = k + (1 : Int) + (1 : Int) := wrap64 (by omega) (by omega)
      have w3 : IntKind.wrap .i64 (k + (1 : Int) + (1 : Int) + (1 : Int)) = k + (1 : Int) + (1 : Int) + (1 : Int) := wrap64 (by omega) (by omega)
      have e0 : (decide (0 ≤ (i : Int) ∧ (i : Int) < ((h.length : Nat) : Int))) = true := decide_eq_true (by (try simp only [List.length_set]); omega)
      have e1 : (q_lmarkText (IntKind.wrap .i64 (k + (1 : Int)))) = true := by simp only [q_lmarkText, w1, w2, w3]; exact decide_eq_true (by omega)
      have e2 : (decide (0 ≤ (i : Int) ∧ (i : Int) < (((h.set i (k, (((h.getD i ((0 : Int), ((⟨#[]⟩ : ByteArray), (⟨#[]⟩ : ByteArray)))).2).1, ((h.getD i ((0 : Int), ((⟨#[]⟩ : ByteArray), (⟨#[]⟩ : ByteArray)))).2).2))).length : Nat) : Int))) = true := decide_eq_true (by (try simp only [List.length_set]); omega)
      have e3 : (q_lmarkText (IntKind.wrap .i64 ((IntKind.wrap .i64 (k + (1 : Int))) + (1 : Int)))) = true := by simp only [q_lmarkText, w1, w2, w3]; exact decide_eq_true (by omega)
      have e4 : (decide (0 ≤ (i : Int) ∧ (i : Int) < ((((h.set i (k, (((h.getD i ((0 : Int), ((⟨#[]⟩ : ByteArray), (⟨#[]⟩ : ByteArray)))).2).1, ((h.getD i ((0 : Int), ((⟨#[]⟩ : ByteArray), (⟨#[]⟩ : ByteArray)))).2).2))).set i (((h.set i (k, (((h.getD i ((0 : Int), ((⟨#[]⟩ : ByteArray), (⟨#[]⟩ : ByteArray)))).2).1, ((h.getD i ((0 : Int), ((⟨#[]⟩ : ByteArray), (⟨#[]⟩ : ByteArray)))).2).2))).getD i ((0 : Int), ((⟨#[]⟩ : ByteArray), (⟨#[]⟩ : ByteArray)))).1, ((lmarkText (IntKind.wrap .i64 (k + (1 : Int)))), (((h.set i (k, (((h.getD i ((0 : Int), ((⟨#[]⟩ : ByteArray), (⟨#[]⟩ : ByteArray)))).2).1, ((h.getD i ((0 : Int), ((⟨#[]⟩ : ByteArray), (⟨#[]⟩ : ByteArray)))).2).2))).getD i ((0 : Int), ((⟨#[]⟩ : ByteArray), (⟨#[]⟩ : ByteArray)))).2).2))).length : Nat) : Int))) = true := decide_eq_true (by (try simp only [List.length_set]); omega)
      have h1 : decide ((i : Int) < ((h.length : Nat) : Int)) = true := decide_eq_true (by omega)
      have v1 : (f_lmarkOpS_0 i (k, h)).1 = k + (1 : Int) + (1 : Int) + (1 : Int) := by simp only [f_lmarkOpS_0, w1, w2, w3]
      have v2 : (f_lmarkOpS_0 i (k, h)).2.length = h.length := by simp only [f_lmarkOpS_0, List.length_set]
      refine ⟨⟨by rw [v1]; omega, by rw [v2]; exact hb2⟩, ?_⟩
      simp only [sp_lmarkOpS_0, st_lmarkOpS_0, RT.val, h1, e0, e1, e2, e3, e4, cond_true, wrapS i (by omega), Int.toNat_natCast]
      rfl
    · have h1 : decide ((i : Int) < ((b.2.length : Nat) : Int)) = false := decide_eq_false (by omega)
      exact ⟨by simp only [sp_lmarkOpS_0, st_lmarkOpS_0, RT.val, h1, cond_false]; rfl, _, _, _, rfl, by simp⟩
theorem rd_lmarkOpS_0 : ∀ d, execC Try.prog tt S20 QF20 (fun _ _ => none) 0 body_lmarkOpS_0 (S_lmarkOpS_0.st d 1 []) (fun e s' => some (e, S_lmarkOpS_0.cutE (kepts [] [(0, [1])]) e s')) = (sp_lmarkOpS_0 d).opt 1 [] := by
  intro d
  kernel_rfl
noncomputable abbrev say_lmarkOpS_0 : St → Option Tree := S_lmarkOpS_0.say 1 [] [] (fun d => T_lmarkOpS_0 d.1.2.1 d.1.2.2.2.2.2.1 d.2.1)
theorem lw_lmarkOpS_0 : LoopWp Try.prog say_lmarkOpS_0 body_lmarkOpS_0 := SS.wp G20 (fun _ _ => none) (by rw [show loopsIn 0 body_lmarkOpS_0 = [] by kernel_rfl]; simp) S_lmarkOpS_0 1 [] (kepts [] [(0, [1])]) [] sp_lmarkOpS_0 rd_lmarkOpS_0 _ (fun d => R_lmarkOpS_0 d.1.2.1 d.1.2.2.2.2.2.1 d.2.1)
noncomputable def lmarkOpS (x1 : Int) (h0 : List (Int × ByteArray × ByteArray)) : Int × List (Int × ByteArray × ByteArray) := (((foldN f_lmarkOpS_0 (h0.length - (0 : Int).toNat) (0 : Int).toNat (x1, h0)).1), ((foldN f_lmarkOpS_0 (h0.length - (0 : Int).toNat) (0 : Int).toNat (x1, h0)).2))
noncomputable abbrev e_lmarkOpS (r : Int × List (Int × ByteArray × ByteArray)) : AV × List AObj × List Nat := ((.t true (.int .i64) r.1), [(.rows 85 true (.pair (.int .i64) (.pair .str .str)) r.2)], [])
noncomputable abbrev g_lmarkOpS : SM_lmarkOpS.den → AV × List AObj × List Nat := fun d => e_lmarkOpS (lmarkOpS d.1.2.1 d.2.1)
noncomputable def q_lmarkOpS (x1 : Int) (h0 : List (Int × ByteArray × ByteArray)) : Bool := okL h0 && decide (0 ≤ x1 ∧ x1 ≤ 100000)
noncomputable abbrev pre_lmarkOpS : SM_lmarkOpS.den → Bool := fun d => q_lmarkOpS d.1.2.1 d.2.1
theorem runA_lmarkOpS (x1 : Int) (h0 : List (Int × ByteArray × ByteArray)) (hp : (okL h0 && decide (0 ≤ x1 ∧ x1 ≤ 100000)) = true) : runM Try.prog tt S20 QF20 (fun b => match b with | 0 => say_lmarkOpS_0 | _ => fun _ => none) Try.f50 (shsMk SM_lmarkOpS.sl ((((), x1, ()), (h0, ())) : SM_lmarkOpS.den).1) (ohsMk SM_lmarkOpS.hp ((((), x1, ()), (h0, ())) : SM_lmarkOpS.den).2) = some (g_lmarkOpS (((), x1, ()), (h0, ()))) := by
  refine Eq.trans (b := (cond (decide (0 ≤ (0 : Int)) && (decide (0 ≤ x1 ∧ x1 ≤ 100000 * ((0 : Int) + 1)) && okL h0)) (some (e_lmarkOpS (((foldN f_lmarkOpS_0 (h0.length - (0 : Int).toNat) (0 : Int).toNat (x1, h0)).1), ((foldN f_lmarkOpS_0 (h0.length - (0 : Int).toNat) (0 : Int).toNat (x1, h0)).2)))) none)) (by kernel_rfl) ?_
  exact (cndT (by first | rfl | decide | exact hp | (simp only [Bool.and_eq_true] at hp; simp only [hp]; done) | (simp [*]; done) | (simp [okL] at hp; simp [okL, MAXB]; omega) | (simp_all; done) | (simp at *; omega)) (fun _h => rfl))
theorem run_lmarkOpS : ∀ d : SM_lmarkOpS.den, pre_lmarkOpS d = true → runM Try.prog tt S20 QF20 (fun b => match b with | 0 => say_lmarkOpS_0 | _ => fun _ => none) Try.f50 (shsMk SM_lmarkOpS.sl (d : SM_lmarkOpS.den).1) (ohsMk SM_lmarkOpS.hp (d : SM_lmarkOpS.den).2) = some (g_lmarkOpS d) := fun d hp => runA_lmarkOpS d.1.2.1 d.2.1 hp
theorem c_lmarkOpS : MContract Try.prog 50 (win winIds (msum SM_lmarkOpS pre_lmarkOpS g_lmarkOpS)) := (MContract.of_data G20 (fn := Try.f50) (by kernel_rfl) (L := fun b => match b with | 0 => say_lmarkOpS_0 | _ => fun _ => none) (by rw [show loopsIn 0 (bodyOf Try.f50) = [(0, body_lmarkOpS_0)] by kernel_rfl]; intro p hp; simp only [List.mem_singleton] at hp; subst hp; exact lw_lmarkOpS_0) SM_lmarkOpS pre_lmarkOpS g_lmarkOpS run_lmarkOpS).win winIds
noncomputable def S21 : Tab := Tab.add S20 50 (win winIds (msum SM_lmarkOpS pre_lmarkOpS g_lmarkOpS))
noncomputable def QF21 : FuncId → Bool := QF20
theorem G21 : Good Try.prog tt S21 QF21 := G20.addM c_lmarkOpS (win_local _) ⟨Try.f50, by kernel_rfl, by kernel_rfl, by kernel_rfl⟩ (by kernel_rfl)

/-! 81 loop.example/g00244/laws.markIntS -/
noncomputable abbrev SM_lmarkIntS : SS := ⟨[.arr 0 1, .t true (.int .i64)], [.rows 3 true (.int .i64)]⟩
noncomputable abbrev S_lmarkIntS_0 : SS := ⟨[.arr 0 1, .t true (.int .i64), .junk, .junk, .junk, .t true (.int .i64), .junk, .junk, .junk, .junk, .junk, .junk, .junk, .junk, .junk, .junk, .junk, .junk, .junk], [.rows 3 true (.int .i64)]⟩
noncomputable abbrev E_lmarkIntS_0_0 : SS := ⟨[.junk, .t true (.int .i64), .junk, .junk, .junk, .junk, .junk, .junk, .junk, .junk, .junk, .junk, .junk, .junk, .junk, .junk, .junk, .junk, .junk], [.rows 3 true (.int .i64)]⟩
noncomputable def st_lmarkIntS_0 (x0a : Nat) (x0b : Nat) (x1 : Int) (x5 : Int) (h0 : List Int) : RT S_lmarkIntS_0.den := (.br (decide (x5 < ((x0b : Nat) : Int))) (.br (decide (0 ≤ x5 ∧ x5 < ((x0b : Nat) : Int))) (.next (((x0a, x0b), IntKind.wrap .i64 (x1 + (1 : Int)), (), (), (), IntKind.wrap .i64 (x5 + (1 : Int)), (), (), (), (), (), (), (), (), (), (), (), (), (), ()), (h0.set (x0a + x5.toNat) x1, ()))) .fail) (.done (.exit 0) E_lmarkIntS_0_0 (((), x1, (), (), (), (), (), (), (), (), (), (), (), (), (), (), (), (), (), ()), (h0, ()))))
noncomputable abbrev V_lmarkIntS_0 := Nat × Nat × (Int) × (Int) × (List Int)
noncomputable abbrev A_lmarkIntS_0 := Nat × (Int) × (List Int)
noncomputable def fl_lmarkIntS_0 : A_lmarkIntS_0 := (99, ((0 : Int) : Int), ([] : List Int))
noncomputable def ss_lmarkIntS_0 (x0a : Nat) (x0b : Nat) (x1 : Int) (x5 : Int) (h0 : List Int) : V_lmarkIntS_0 ⊕ A_lmarkIntS_0 := (cond (decide (x5 < ((x0b : Nat) : Int))) (cond (decide (0 ≤ x5 ∧ x5 < ((x0b : Nat) : Int))) (.inl (x0a, x0b, IntKind.wrap .i64 (x1 + (1 : Int)), IntKind.wrap .i64 (x5 + (1 : Int)), h0.set (x0a + x5.toNat) x1)) (.inr fl_lmarkIntS_0)) (.inr (0, x1, h0)))
noncomputable def it_lmarkIntS_0 (x0a : Nat) (x0b : Nat) (x1 : Int) (x5 : Int) (h0 : List Int) : A_lmarkIntS_0 := itX (fun v : V_lmarkIntS_0 => ss_lmarkIntS_0 v.1 v.2.1 v.2.2.1 v.2.2.2.1 v.2.2.2.2) fl_lmarkIntS_0 (x0a, x0b, x1, x5, h0)
noncomputable def ct_lmarkIntS_0 (a : A_lmarkIntS_0) : CT := (.br (a.1 == 0) (.done (.exit 0) E_lmarkIntS_0_0 (((), a.2.1, (), (), (), (), (), (), (), (), (), (), (), (), (), (), (), (), (), ()), (a.2.2, ()))) .fail)
noncomputable def T_lmarkIntS_0 (x0a : Nat) (x0b : Nat) (x1 : Int) (x5 : Int) (h0 : List Int) : CT := ct_lmarkIntS_0 (it_lmarkIntS_0 x0a x0b x1 x5 h0)
noncomputable abbrev sp_lmarkIntS_0 : S_lmarkIntS_0.den → RT S_lmarkIntS_0.den := fun d => st_lmarkIntS_0 d.1.1.1 d.1.1.2 d.1.2.1 d.1.2.2.2.2.2.1 d.2.1
noncomputable abbrev pk_lmarkIntS_0 (x0a : Nat) (x0b : Nat) (x1 : Int) (x5 : Int) (h0 : List Int) : S_lmarkIntS_0.den := (((x0a, x0b), x1, (), (), (), x5, (), (), (), (), (), (), (), (), (), (), (), (), (), ()), (h0, ()))
noncomputable def body_lmarkIntS_0 : Code := ((loopsIn 0 (bodyOf Try.f81)).getD 0 (0, .skip)).2
theorem R_lmarkIntS_0 (x0a : Nat) (x0b : Nat) (x1 : Int) (x5 : Int) (h0 : List Int) : (T_lmarkIntS_0 x0a x0b x1 x5 h0).val (D := S_lmarkIntS_0.den) = .fail ∨ Runs sp_lmarkIntS_0 (pk_lmarkIntS_0 x0a x0b x1 x5 h0) (T_lmarkIntS_0 x0a x0b x1 x5 h0).val := Runs.ofIt (step := sp_lmarkIntS_0) (fun v : V_lmarkIntS_0 => pk_lmarkIntS_0 v.1 v.2.1 v.2.2.1 v.2.2.2.1 v.2.2.2.2) (ct := ct_lmarkIntS_0) rfl (fun v => ((relB (relB rfl rfl) rfl) : (st_lmarkIntS_0 v.1 v.2.1 v.2.2.1 v.2.2.2.1 v.2.2.2.2).val = relS (fun v : V_lmarkIntS_0 => pk_lmarkIntS_0 v.1 v.2.1 v.2.2.1 v.2.2.2.1 v.2.2.2.2) ct_lmarkIntS_0 (ss_lmarkIntS_0 v.1 v.2.1 v.2.2.1 v.2.2.2.1 v.2.2.2.2))) (fun a => ((cendB (cendD (by simp)) cendF) : CEnd _ (ct_lmarkIntS_0 a))) (x0a, x0b, x1, x5, h0)
theorem rd_lmarkIntS_0 : ∀ d, execC Try.prog tt S21 QF21 (fun _ _ => none) 0 body_lmarkIntS_0 (S_lmarkIntS_0.st d 1 []) (fun e s' => some (e, S_lmarkIntS_0.cutE (kepts [] [(0, [1])]) e s')) = (sp_lmarkIntS_0 d).opt 1 [] := by
  intro d
  kernel_rfl
noncomputable abbrev say_lmarkIntS_0 : St → Option Tree := S_lmarkIntS_0.say 1 [] [] (fun d => T_lmarkIntS_0 d.1.1.1 d.1.1.2 d.1.2.1 d.1.2.2.2.2.2.1 d.2.1)
theorem lw_lmarkIntS_0 : LoopWp Try.prog say_lmarkIntS_0 body_lmarkIntS_0 := SS.wp G21 (fun _ _ => none) (by rw [show loopsIn 0 body_lmarkIntS_0 = [] by kernel_rfl]; simp) S_lmarkIntS_0 1 [] (kepts [] [(0, [1])]) [] sp_lmarkIntS_0 rd_lmarkIntS_0 _ (fun d => R_lmarkIntS_0 d.1.1.1 d.1.1.2 d.1.2.1 d.1.2.2.2.2.2.1 d.2.1)
noncomputable def lmarkIntS (x0a : Nat) (x0b : Nat) (x1 : Int) (h0 : List Int) : Int × List Int := (((it_lmarkIntS_0 x0a x0b x1 (0 : Int) h0).2.1), ((it_lmarkIntS_0 x0a x0b x1 (0 : Int) h0).2.2))
noncomputable abbrev e_lmarkIntS (r : Int × List Int) : AV × List AObj × List Nat := ((.t true (.int .i64) r.1), [(.rows 3 true (.int .i64) r.2)], [])
noncomputable abbrev g_lmarkIntS : SM_lmarkIntS.den → AV × List AObj × List Nat := fun d => e_lmarkIntS (lmarkIntS d.1.1.1 d.1.1.2 d.1.2.1 d.2.1)
noncomputable def q_lmarkIntS (x0a : Nat) (x0b : Nat) (x1 : Int) (h0 : List Int) : Bool := ((it_lmarkIntS_0 x0a x0b x1 (0 : Int) h0).1 == 0)
noncomputable abbrev pre_lmarkIntS : SM_lmarkIntS.den → Bool := fun d => q_lmarkIntS d.1.1.1 d.1.1.2 d.1.2.1 d.2.1
theorem runA_lmarkIntS (x0a : Nat) (x0b : Nat) (x1 : Int) (h0 : List Int) (hp : (((it_lmarkIntS_0 x0a x0b x1 (0 : Int) h0).1 == 0)) = true) : runM Try.prog tt S21 QF21 (fun b => match b with | 0 => say_lmarkIntS_0 | _ => fun _ => none) Try.f81 (shsMk SM_lmarkIntS.sl ((((x0a, x0b), x1, ()), (h0, ())) : SM_lmarkIntS.den).1) (ohsMk SM_lmarkIntS.hp ((((x0a, x0b), x1, ()), (h0, ())) : SM_lmarkIntS.den).2) = some (g_lmarkIntS (((x0a, x0b), x1, ()), (h0, ()))) := by
  refine Eq.trans (b := (cond ((it_lmarkIntS_0 x0a x0b x1 (0 : Int) h0).1 == 0) (some (e_lmarkIntS (((it_lmarkIntS_0 x0a x0b x1 (0 : Int) h0).2.1), ((it_lmarkIntS_0 x0a x0b x1 (0 : Int) h0).2.2)))) none)) (by kernel_rfl) ?_
  exact (cndT hp (fun _h => rfl))
theorem run_lmarkIntS : ∀ d : SM_lmarkIntS.den, pre_lmarkIntS d = true → runM Try.prog tt S21 QF21 (fun b => match b with | 0 => say_lmarkIntS_0 | _ => fun _ => none) Try.f81 (shsMk SM_lmarkIntS.sl (d : SM_lmarkIntS.den).1) (ohsMk SM_lmarkIntS.hp (d : SM_lmarkIntS.den).2) = some (g_lmarkIntS d) := fun d hp => runA_lmarkIntS d.1.1.1 d.1.1.2 d.1.2.1 d.2.1 hp
theorem c_lmarkIntS : MContract Try.prog 81 (win winIds (msum SM_lmarkIntS pre_lmarkIntS g_lmarkIntS)) := (MContract.of_data G21 (fn := Try.f81) (by kernel_rfl) (L := fun b => match b with | 0 => say_lmarkIntS_0 | _ => fun _ => none) (by rw [show loopsIn 0 (bodyOf Try.f81) = [(0, body_lmarkIntS_0)] by kernel_rfl]; intro p hp; simp only [List.mem_singleton] at hp; subst hp; exact lw_lmarkIntS_0) SM_lmarkIntS pre_lmarkIntS g_lmarkIntS run_lmarkIntS).win winIds
noncomputable def S22 : Tab := Tab.add S21 81 (win winIds (msum SM_lmarkIntS pre_lmarkIntS g_lmarkIntS))
noncomputable def QF22 : FuncId → Bool := QF21
theorem G22 : Good Try.prog tt S22 QF22 := G21.addM c_lmarkIntS (win_local _) ⟨Try.f81, by kernel_rfl, by kernel_rfl, by kernel_rfl⟩ (by kernel_rfl)

/-! 82 loop.example/g00244/laws.heldIntS -/

noncomputable def f_lheldIntS_0 (x0 : List Int) (i : Nat) (k : Int) : Int ⊕ Unit := (cond ((x0.getD i (0 : Int)) != k) (.inr ()) (.inl (IntKind.wrap .i64 (k + (1 : Int)))))
noncomputable abbrev P_lheldIntS : List PSh := [.t (.sl (.int .i64)), .t (.int .i64)]
noncomputable abbrev S_lheldIntS_0 : SS := ⟨[.t false (.sl (.int .i64)), .t true (.int .i64), .junk, .junk, .junk, .t true (.int .i64), .junk, .junk, .junk, .junk, .junk, .junk, .junk, .junk, .junk, .junk, .junk, .junk, .junk, .junk, .junk], []⟩
noncomputable abbrev E_lheldIntS_0_0 : SS := ⟨[.junk, .junk, .junk, .junk, .t true (.int .i64), .junk, .junk, .junk, .junk, .junk, .junk, .junk, .junk, .junk, .junk, .junk, .junk, .junk, .junk, .junk, .junk], []⟩
noncomputable abbrev E_lheldIntS_0_1 : SS := ⟨[.junk, .t true (.int .i64), .junk, .junk, .junk, .junk, .junk, .junk, .junk, .junk, .junk, .junk, .junk, .junk, .junk, .junk, .junk, .junk, .junk, .junk, .junk], []⟩
noncomputable def st_lheldIntS_0 (x0 : List Int) (x1 : Int) (x5 : Int) : RT S_lheldIntS_0.den := (.br (decide (x5 < ((x0.length : Nat) : Int))) (.br (decide (0 ≤ x5 ∧ x5 < ((x0.length : Nat) : Int))) (.br ((x0.getD x5.toNat (0 : Int)) != x1) (.done .ret E_lheldIntS_0_0 (((), (), (), (), (-1 : Int), (), (), (), (), (), (), (), (), (), (), (), (), (), (), (), (), ()), ())) (.next ((x0, IntKind.wrap .i64 (x1 + (1 : Int)), (), (), (), IntKind.wrap .i64 (x5 + (1 : Int)), (), (), (), (), (), (), (), (), (), (), (), (), (), (), (), ()), ()))) .fail) (.done (.exit 0) E_lheldIntS_0_1 (((), x1, (), (), (), (), (), (), (), (), (), (), (), (), (), (), (), (), (), (), (), ()), ())))
noncomputable def T_lheldIntS_0 (x0 : List Int) (x1 : Int) (x5 : Int) : CT := (.br (decide (0 ≤ x5) && (decide (0 ≤ x1 ∧ x1 ≤ 100000 * (x5 + 1)) && okL x0)) (.br (isInl (loopN (f_lheldIntS_0 x0) (x0.length - x5.toNat) x5.toNat x1)) (.done (.exit 0) E_lheldIntS_0_1 (((), (getInl (-1) (loopN (f_lheldIntS_0 x0) (x0.length - x5.toNat) x5.toNat x1)), (), (), (), (), (), (), (), (), (), (), (), (), (), (), (), (), (), (), (), ()), ())) (.done .ret E_lheldIntS_0_0 (((), (), (), (), (-1 : Int), (), (), (), (), (), (), (), (), (), (), (), (), (), (), (), (), ()), ()))) .fail)
noncomputable abbrev sp_lheldIntS_0 : S_lheldIntS_0.den → RT S_lheldIntS_0.den := fun d => st_lheldIntS_0 d.1.1 d.1.2.1 d.1.2.2.2.2.2.1
noncomputable abbrev pk_lheldIntS_0 (x0 : List Int) (x1 : Int) (x5 : Int) : S_lheldIntS_0.den := ((x0, x1, (), (), (), x5, (), (), (), (), (), (), (), (), (), (), (), (), (), (), (), ()), ())
noncomputable def body_lheldIntS_0 : Code := ((loopsIn 0 (bodyOf Try.f82)).getD 0 (0, .skip)).2
theorem R_lheldIntS_0 (x0 : List Int) (x1 : Int) (x5 : Int) : (T_lheldIntS_0 x0 x1 x5).val (D := S_lheldIntS_0.den) = .fail ∨ Runs sp_lheldIntS_0 (pk_lheldIntS_0 x0 x1 x5) (T_lheldIntS_0 x0 x1 x5).val := by
  cases hc : (decide (0 ≤ x5) && (decide (0 ≤ x1 ∧ x1 ≤ 100000 * (x5 + 1)) && okL x0)) with
  | false => left; simp only [T_lheldIntS_0, CT.val, hc, cond_false]
  | true =>
    right
    simp only [T_lheldIntS_0, CT.val, hc, cond_true]
    simp only [Bool.and_eq_true, decide_eq_true_eq] at hc
    obtain ⟨i, rfl⟩ := Int.eq_ofNat_of_zero_le hc.1
    have hs := okL_le hc.2.2
    have hk := hc.2.1
    simp only [Int.toNat_natCast]
    have h := Runs.loopN (step := sp_lheldIntS_0) (fun j b => pk_lheldIntS_0 x0 b (j : Int)) (fun i b => 0 ≤ b ∧ b ≤ 100000 * ((i : Int) + 1)) (x0.length) (f_lheldIntS_0 x0)
      (fin := fun b => ((.done (.exit 0) E_lheldIntS_0_1 (((), b, (), (), (), (), (), (), (), (), (), (), (), (), (), (), (), (), (), (), (), ()), ())) : CT).val) (bad := fun _ => ((.done .ret E_lheldIntS_0_0 (((), (), (), (), (-1 : Int), (), (), (), (), (), (), (), (), (), (), (), (), (), (), (), (), ()), ())) : CT).val)
      (fun i b hi hb => ?_) (fun i b hi hb => ?_) (x0.length - i) i x1 rfl hk
    · revert h
      cases loopN (f_lheldIntS_0 x0) (x0.length - i) i x1 with
      | inl b => exact id
      | inr c => exact id
    · revert hb
      generalize b = k
      intro hb
      have w1 : IntKind.wrap .i64 (k + (1 : Int)) = k + (1 : Int) := wrap64 (by omega) (by omega)
      have e0 : (decide (0 ≤ (i : Int) ∧ (i : Int) < ((x0.length : Nat) : Int))) = true := decide_eq_true (by omega)
      have h1 : decide ((i : Int) < ((x0.length : Nat) : Int)) = true := decide_eq_true (by omega)
      have e : (sp_lheldIntS_0 (pk_lheldIntS_0 x0 k (i : Int))).val = (cond ((x0.getD i (0 : Int)) != k) ((.done .ret E_lheldIntS_0_0 (((), (), (), (), (-1 : Int), (), (), (), (), (), (), (), (), (), (), (), (), (), (), (), (), ()), ())) : CT).val (.next (pk_lheldIntS_0 x0 (IntKind.wrap .i64 (k + (1 : Int))) ((i + 1 : Nat) : Int)))) := by
        simp only [sp_lheldIntS_0, st_lheldIntS_0, RT.val, h1, e0, cond_true, wrapS i (by omega), Int.toNat_natCast]
        rfl
      cases g0 : ((x0.getD i (0 : Int)) != k) with
      | true => exact .inr ⟨(), _, _, _, by simp only [f_lheldIntS_0, g0, cond_true, cond_false], by rw [e, g0]; rfl, rfl, by simp⟩
      | false =>
        exact .inl ⟨IntKind.wrap .i64 (k + (1 : Int)), by simp only [f_lheldIntS_0, g0, cond_false], by rw [w1]; omega, by rw [e, g0]; rfl⟩
    · have h1 : decide ((i : Int) < ((x0.length : Nat) : Int)) = false := decide_eq_false (by omega)
      exact ⟨by simp only [sp_lheldIntS_0, st_lheldIntS_0, RT.val, h1, cond_false]; rfl, _, _, _, rfl, by simp⟩
theorem rd_lheldIntS_0 : ∀ d, execC Try.prog tt S22 QF22 (fun _ _ => none) 0 body_lheldIntS_0 (S_lheldIntS_0.st d 0 []) (fun e s' => some (e, S_lheldIntS_0.cutE (kepts [4] [(0, [1])]) e s')) = (sp_lheldIntS_0 d).opt 0 [] := by
  intro d
  kernel_rfl
noncomputable abbrev say_lheldIntS_0 : St → Option Tree := S_lheldIntS_0.say 0 [] [] (fun d => T_lheldIntS_0 d.1.1 d.1.2.1 d.1.2.2.2.2.2.1)
theorem lw_lheldIntS_0 : LoopWp Try.prog say_lheldIntS_0 body_lheldIntS_0 := SS.wp G22 (fun _ _ => none) (by rw [show loopsIn 0 body_lheldIntS_0 = [] by kernel_rfl]; simp) S_lheldIntS_0 0 [] (kepts [4] [(0, [1])]) [] sp_lheldIntS_0 rd_lheldIntS_0 _ (fun d => R_lheldIntS_0 d.1.1 d.1.2.1 d.1.2.2.2.2.2.1)
noncomputable def lheldIntS (a0 : List Int) (a1 : Int) : Int := (cond (isInl (loopN (f_lheldIntS_0 a0) (a0.length - (0 : Int).toNat) (0 : Int).toNat a1)) (getInl (-1) (loopN (f_lheldIntS_0 a0) (a0.length - (0 : Int).toNat) (0 : Int).toNat a1)) (-1 : Int))
noncomputable abbrev e_lheldIntS (r : Int) : AV × List AObj := ((.t true (.int .i64) r), [])
noncomputable abbrev g_lheldIntS : pshsDen P_lheldIntS → AV × List AObj := fun d => e_lheldIntS (lheldIntS d.1 d.2.1)
noncomputable def q_lheldIntS (a0 : List Int) (a1 : Int) : Bool := okL a0 && decide (0 ≤ a1 ∧ a1 ≤ 100000)
noncomputable abbrev pre_lheldIntS : pshsDen P_lheldIntS → Bool := fun d => q_lheldIntS d.1 d.2.1
theorem runA_lheldIntS (a0 : List Int) (a1 : Int) (hp : (okL a0 && decide (0 ≤ a1 ∧ a1 ≤ 100000)) = true) : runP true Try.prog tt S22 QF22 (fun b => match b with | 0 => say_lheldIntS_0 | _ => fun _ => none) Try.f82 (argsMk P_lheldIntS (a0, (a1, ()))) = some (g_lheldIntS (a0, (a1, ()))) := by
  refine Eq.trans (b := (cond (decide (0 ≤ (0 : Int)) && (decide (0 ≤ a1 ∧ a1 ≤ 100000 * ((0 : Int) + 1)) && okL a0)) (cond (isInl (loopN (f_lheldIntS_0 a0) (a0.length - (0 : Int).toNat) (0 : Int).toNat a1)) (some (e_lheldIntS (getInl (-1) (loopN (f_lheldIntS_0 a0) (a0.length - (0 : Int).toNat) (0 : Int).toNat a1)))) (some (e_lheldIntS (-1 : Int)))) none)) (by kernel_rfl) ?_
  exact (cndT (by first | rfl | decide | exact hp | (simp only [Bool.and_eq_true] at hp; simp only [hp]; done) | (simp [*]; done) | (simp [okL] at hp; simp [okL, MAXB]; omega) | (simp_all; done) | (simp at *; omega)) (fun _h => (cnd (F := fun r => some (e_lheldIntS r)) (fun _h => rfl) (fun _h => rfl))))
theorem run_lheldIntS : ∀ d, pre_lheldIntS d = true → runP true Try.prog tt S22 QF22 (fun b => match b with | 0 => say_lheldIntS_0 | _ => fun _ => none) Try.f82 (argsMk P_lheldIntS d) = some (g_lheldIntS d) := fun d hp => runA_lheldIntS d.1 d.2.1 hp
theorem c_lheldIntS : PContract Try.prog 82 (sumOf P_lheldIntS pre_lheldIntS g_lheldIntS) := PContract.of_data true G22 (fn := Try.f82) (by kernel_rfl) (L := fun b => match b with | 0 => say_lheldIntS_0 | _ => fun _ => none) (by rw [show loopsIn 0 (bodyOf Try.f82) = [(0, body_lheldIntS_0)] by kernel_rfl]; intro p hp; simp only [List.mem_singleton] at hp; subst hp; exact lw_lheldIntS_0) P_lheldIntS pre_lheldIntS g_lheldIntS run_lheldIntS
noncomputable def S23 : Tab := Tab.add S22 82 (lift (sumOf P_lheldIntS pre_lheldIntS g_lheldIntS))
noncomputable def QF23 : FuncId → Bool := qadd QF22 82
theorem G23 : Good Try.prog tt S23 QF23 := G22.addQ c_lheldIntS ⟨Try.f82, by kernel_rfl, by kernel_rfl, by kernel_rfl⟩ (fun _ => rfl)

/-! 14 loop.example/g00244/laws.FnExactShardsOf -/
noncomputable abbrev P_lFnExactShardsOf : List PSh := [.t (.sl (.pair (.int .i64) (.pair .str .str))), .t (.int .i64)]
noncomputable def k1_lFnExactShardsOf (a0 : List (Int × ByteArray × ByteArray)) (a1 : Int) := leqIntS ((((iShardsOf (ltoOpS a0) a1).2.2).drop ((iShardsOf (ltoOpS a0) a1).1)).take ((iShardsOf (ltoOpS a0) a1).2.1)) (sShardsOf (ltoOpS a0) a1)
noncomputable def k2_lFnExactShardsOf (a0 : List (Int × ByteArray × ByteArray)) (a1 : Int) := lmarkIntS ((iShardsOf (ltoOpS a0) a1).1) ((iShardsOf (ltoOpS a0) a1).2.1) (1 : Int) ((iShardsOf (ltoOpS a0) a1).2.2)
noncomputable def k3_lFnExactShardsOf (a0 : List (Int × ByteArray × ByteArray)) (a1 : Int) := lheldIntS ((((k2_lFnExactShardsOf a0 a1).2).drop ((iShardsOf (ltoOpS a0) a1).1)).take ((iShardsOf (ltoOpS a0) a1).2.1)) (1 : Int)
noncomputable def lFnExactShardsOf (a0 : List (Int × ByteArray × ByteArray)) (a1 : Int) : Bool := (cond (decide ((lszOpS a0 (1048576 : Int)) < (0 : Int))) true (cond (!(k1_lFnExactShardsOf a0 a1)) false (cond (!(leqOpS (ltoOpS a0) (ltoOpS a0))) false (cond (decide (((lmarkOpS (1 : Int) (ltoOpS a0)).1) < (0 : Int))) false (cond (!(k1_lFnExactShardsOf a0 a1)) false (cond (decide ((k3_lFnExactShardsOf a0 a1) < (0 : Int))) false (cond ((k3_lFnExactShardsOf a0 a1) != ((k2_lFnExactShardsOf a0 a1).1)) false (cond (!(k1_lFnExactShardsOf a0 a1)) false (cond (decide ((k3_lFnExactShardsOf a0 a1) < (0 : Int))) false (cond ((k3_lFnExactShardsOf a0 a1) != ((k2_lFnExactShardsOf a0 a1).1)) false true))))))))))
noncomputable abbrev e_lFnExactShardsOf (r : Bool) : AV × List AObj := ((.t true .bool r), [])
noncomputable abbrev g_lFnExactShardsOf : pshsDen P_lFnExactShardsOf → AV × List AObj := fun d => e_lFnExactShardsOf (lFnExactShardsOf d.1 d.2.1)
noncomputable def q_lFnExactShardsOf (a0 : List (Int × ByteArray × ByteArray)) (a1 : Int) : Bool := (q_lszOpS a0 (1048576 : Int)) && (cond (decide ((lszOpS a0 (1048576 : Int)) < (0 : Int))) true ((q_ltoOpS a0) && ((q_sShardsOf (ltoOpS a0) a1) && ((q_ltoOpS a0) && ((q_iShardsOf (ltoOpS a0) a1) && ((q_leqIntS ((((iShardsOf (ltoOpS a0) a1).2.2).drop ((iShardsOf (ltoOpS a0) a1).1)).take ((iShardsOf (ltoOpS a0) a1).2.1)) (sShardsOf (ltoOpS a0) a1)) && (cond (!(k1_lFnExactShardsOf a0 a1)) true ((q_ltoOpS a0) && ((q_leqOpS (ltoOpS a0) (ltoOpS a0)) && (cond (!(leqOpS (ltoOpS a0) (ltoOpS a0))) true ((q_lmarkOpS (1 : Int) (ltoOpS a0)) && (cond (decide (((lmarkOpS (1 : Int) (ltoOpS a0)).1) < (0 : Int))) true ((q_leqIntS ((((iShardsOf (ltoOpS a0) a1).2.2).drop ((iShardsOf (ltoOpS a0) a1).1)).take ((iShardsOf (ltoOpS a0) a1).2.1)) (sShardsOf (ltoOpS a0) a1)) && (cond (!(k1_lFnExactShardsOf a0 a1)) true ((q_lmarkIntS ((iShardsOf (ltoOpS a0) a1).1) ((iShardsOf (ltoOpS a0) a1).2.1) (1 : Int) ((iShardsOf (ltoOpS a0) a1).2.2)) && ((q_lheldIntS ((((k2_lFnExactShardsOf a0 a1).2).drop ((iShardsOf (ltoOpS a0) a1).1)).take ((iShardsOf (ltoOpS a0) a1).2.1)) (1 : Int)) && (cond (decide ((k3_lFnExactShardsOf a0 a1) < (0 : Int))) true (cond ((k3_lFnExactShardsOf a0 a1) != ((k2_lFnExactShardsOf a0 a1).1)) true ((q_ltoOpS a0) && ((q_iShardsOf (ltoOpS a0) a1) && ((q_leqIntS ((((iShardsOf (ltoOpS a0) a1).2.2).drop ((iShardsOf (ltoOpS a0) a1).1)).take ((iShardsOf (ltoOpS a0) a1).2.1)) (sShardsOf (ltoOpS a0) a1)) && (cond (!(k1_lFnExactShardsOf a0 a1)) true (q_lheldIntS ((((k2_lFnExactShardsOf a0 a1).2).drop ((iShardsOf (ltoOpS a0) a1).1)).take ((iShardsOf (ltoOpS a0) a1).2.1)) (1 : Int))))))))))))))))))))))))
noncomputable abbrev pre_lFnExactShardsOf : pshsDen P_lFnExactShardsOf → Bool := fun d => q_lFnExactShardsOf d.1 d.2.1
theorem runA_lFnExactShardsOf (a0 : List (Int × ByteArray × ByteArray)) (a1 : Int) (hp : ((q_lszOpS a0 (1048576 : Int)) && (cond (decide ((lszOpS a0 (1048576 : Int)) < (0 : Int))) true ((q_ltoOpS a0) && ((q_sShardsOf (ltoOpS a0) a1) && ((q_ltoOpS a0) && ((q_iShardsOf (ltoOpS a0) a1) && ((q_leqIntS ((((iShardsOf (ltoOpS a0) a1).2.2).drop ((iShardsOf (ltoOpS a0) a1).1)).take ((iShardsOf (ltoOpS a0) a1).2.1)) (sShardsOf (ltoOpS a0) a1)) && (cond (!(k1_lFnExactShardsOf a0 a1)) true ((q_ltoOpS a0) && ((q_leqOpS (ltoOpS a0) (ltoOpS a0)) && (cond (!(leqOpS (ltoOpS a0) (ltoOpS a0))) true ((q_lmarkOpS (1 : Int) (ltoOpS a0)) && (cond (decide (((lmarkOpS (1 : Int) (ltoOpS a0)).1) < (0 : Int))) true ((q_leqIntS ((((iShardsOf (ltoOpS a0) a1).2.2).drop ((iShardsOf (ltoOpS a0) a1).1)).take ((iShardsOf (ltoOpS a0) a1).2.1)) (sShardsOf (ltoOpS a0) a1)) && (cond (!(k1_lFnExactShardsOf a0 a1)) true ((q_lmarkIntS ((iShardsOf (ltoOpS a0) a1).1) ((iShardsOf (ltoOpS a0) a1).2.1) (1 : Int) ((iShardsOf (ltoOpS a0) a1).2.2)) && ((q_lheldIntS ((((k2_lFnExactShardsOf a0 a1).2).drop ((iShardsOf (ltoOpS a0) a1).1)).take ((iShardsOf (ltoOpS a0) a1).2.1)) (1 : Int)) && (cond (decide ((k3_lFnExactShardsOf a0 a1) < (0 : Int))) true (cond ((k3_lFnExactShardsOf a0 a1) != ((k2_lFnExactShardsOf a0 a1).1)) true ((q_ltoOpS a0) && ((q_iShardsOf (ltoOpS a0) a1) && ((q_leqIntS ((((iShardsOf (ltoOpS a0) a1).2.2).drop ((iShardsOf (ltoOpS a0) a1).1)).take ((iShardsOf (ltoOpS a0) a1).2.1)) (sShardsOf (ltoOpS a0) a1)) && (cond (!(k1_lFnExactShardsOf a0 a1)) true (q_lheldIntS ((((k2_lFnExactShardsOf a0 a1).2).drop ((iShardsOf (ltoOpS a0) a1).1)).take ((iShardsOf (ltoOpS a0) a1).2.1)) (1 : Int))))))))))))))))))))))))) = true) : runP true Try.prog tt S23 QF23 (fun _ _ => none) Try.f14 (argsMk P_lFnExactShardsOf (a0, (a1, ()))) = some (g_lFnExactShardsOf (a0, (a1, ()))) := by
  refine Eq.trans (b := (cond (q_lszOpS a0 (1048576 : Int)) (cond (decide ((lszOpS a0 (1048576 : Int)) < (0 : Int))) (some (e_lFnExactShardsOf true)) (cond (q_ltoOpS a0) (cond (q_sShardsOf (ltoOpS a0) a1) (cond (q_ltoOpS a0) (cond (q_iShardsOf (ltoOpS a0) a1) (cond (q_leqIntS ((((iShardsOf (ltoOpS a0) a1).2.2).drop ((iShardsOf (ltoOpS a0) a1).1)).take ((iShardsOf (ltoOpS a0) a1).2.1)) (sShardsOf (ltoOpS a0) a1)) (cond (!(k1_lFnExactShardsOf a0 a1)) (some (e_lFnExactShardsOf false)) (cond (q_ltoOpS a0) (cond (q_leqOpS (ltoOpS a0) (ltoOpS a0)) (cond (!(leqOpS (ltoOpS a0) (ltoOpS a0))) (some (e_lFnExactShardsOf false)) (cond (q_lmarkOpS (1 : Int) (ltoOpS a0)) (cond (decide (((lmarkOpS (1 : Int) (ltoOpS a0)).1) < (0 : Int))) (some (e_lFnExactShardsOf false)) (cond (q_leqIntS ((((iShardsOf (ltoOpS a0) a1).2.2).drop ((iShardsOf (ltoOpS a0) a1).1)).take ((iShardsOf (ltoOpS a0) a1).2.1)) (sShardsOf (ltoOpS a0) a1)) (cond (!(k1_lFnExactShardsOf a0 a1)) (some (e_lFnExactShardsOf false)) (cond (q_lmarkIntS ((iShardsOf (ltoOpS a0) a1).1) ((iShardsOf (ltoOpS a0) a1).2.1) (1 : Int) ((iShardsOf (ltoOpS a0) a1).2.2)) (cond (q_lheldIntS ((((k2_lFnExactShardsOf a0 a1).2).drop ((iShardsOf (ltoOpS a0) a1).1)).take ((iShardsOf (ltoOpS a0) a1).2.1)) (1 : Int)) (cond (decide ((k3_lFnExactShardsOf a0 a1) < (0 : Int))) (some (e_lFnExactShardsOf false)) (cond ((k3_lFnExactShardsOf a0 a1) != ((k2_lFnExactShardsOf a0 a1).1)) (some (e_lFnExactShardsOf false)) (cond (q_ltoOpS a0) (cond (q_iShardsOf (ltoOpS a0) a1) (cond (q_leqIntS ((((iShardsOf (ltoOpS a0) a1).2.2).drop ((iShardsOf (ltoOpS a0) a1).1)).take ((iShardsOf (ltoOpS a0) a1).2.1)) (sShardsOf (ltoOpS a0) a1)) (cond (!(k1_lFnExactShardsOf a0 a1)) (some (e_lFnExactShardsOf false)) (cond (q_lheldIntS ((((k2_lFnExactShardsOf a0 a1).2).drop ((iShardsOf (ltoOpS a0) a1).1)).take ((iShardsOf (ltoOpS a0) a1).2.1)) (1 : Int)) (cond (decide ((k3_lFnExactShardsOf a0 a1) < (0 : Int))) (some (e_lFnExactShardsOf false)) (cond ((k3_lFnExactShardsOf a0 a1) != ((k2_lFnExactShardsOf a0 a1).1)) (some (e_lFnExactShardsOf false)) (some (e_lFnExactShardsOf true)))) none)) none) none) none))) none) none)) none)) none)) none) none)) none) none) none) none) none)) none)) (by kernel_rfl) ?_
  exact (cndT (andL hp) (fun _h => (fun hp => (cndQ (F := fun r => some (e_lFnExactShardsOf r)) hp (fun hp => rfl) (fun hp => (cndT (andL hp) (fun _h => (fun hp => (cndT (andL hp) (fun _h => (fun hp => (cndT (andL hp) (fun _h => (fun hp => (cndT (andL hp) (fun _h => (fun hp => (cndT (andL hp) (fun _h => (fun hp => (cndQ (F := fun r => some (e_lFnExactShardsOf r)) hp (fun hp => rfl) (fun hp => (cndT (andL hp) (fun _h => (fun hp => (cndT (andL hp) (fun _h => (fun hp => (cndQ (F := fun r => some (e_lFnExactShardsOf r)) hp (fun hp => rfl) (fun hp => (cndT (andL hp) (fun _h => (fun hp => (cndQ (F := fun r => some (e_lFnExactShardsOf r)) hp (fun hp => rfl) (fun hp => (cndT (andL hp) (fun _h => (fun hp => (cndQ (F := fun r => some (e_lFnExactShardsOf r)) hp (fun hp => rfl) (fun hp => (cndT (andL hp) (fun _h => (fun hp => (cndT (andL hp) (fun _h => (fun hp => (cndQ (F := fun r => some (e_lFnExactShardsOf r)) hp (fun hp => rfl) (fun hp => (cndQ (F := fun r => some (e_lFnExactShardsOf r)) hp (fun hp => rfl) (fun hp => (cndT (andL hp) (fun _h => (fun hp => (cndT (andL hp) (fun _h => (fun hp => (cndT (andL hp) (fun _h => (fun hp => (cndQ (F := fun r => some (e_lFnExactShardsOf r)) hp (fun hp => rfl) (fun hp => (cndT hp (fun _h => (cnd (F := fun r => some (e_lFnExactShardsOf r)) (fun _h => rfl) (fun _h => (cnd (F := fun r => some (e_lFnExactShardsOf r)) (fun _h => rfl) (fun _h => rfl))))))))) (andR hp)))) (andR hp)))) (andR hp)))))))) (andR hp)))) (andR hp)))))) (andR hp)))))) (andR hp)))))) (andR hp)))) (andR hp)))))) (andR hp)))) (andR hp)))) (andR hp)))) (andR hp)))) (andR hp)))))) (andR hp)))
theorem run_lFnExactShardsOf : ∀ d, pre_lFnExactShardsOf d = true → runP true Try.prog tt S23 QF23 (fun _ _ => none) Try.f14 (argsMk P_lFnExactShardsOf d) = some (g_lFnExactShardsOf d) := fun d hp => runA_lFnExactShardsOf d.1 d.2.1 hp
theorem c_lFnExactShardsOf : PContract Try.prog 14 (sumOf P_lFnExactShardsOf pre_lFnExactShardsOf g_lFnExactShardsOf) := PContract.of_data true G23 (fn := Try.f14) (by kernel_rfl) (L := fun _ _ => none) (by rw [show loopsIn 0 (bodyOf Try.f14) = [] by kernel_rfl]; simp) P_lFnExactShardsOf pre_lFnExactShardsOf g_lFnExactShardsOf run_lFnExactShardsOf
noncomputable def S24 : Tab := Tab.add S23 14 (lift (sumOf P_lFnExactShardsOf pre_lFnExactShardsOf g_lFnExactShardsOf))
noncomputable def QF24 : FuncId → Bool := qadd QF23 14
theorem G24 : Good Try.prog tt S24 QF24 := G23.addQ c_lFnExactShardsOf ⟨Try.f14, by kernel_rfl, by kernel_rfl, by kernel_rfl⟩ (fun _ => rfl)
theorem toOpS_same (l : List (Int × ByteArray × ByteArray)) : ltoOpS l = l := by
  have e := mapN (fun o : Int × ByteArray × ByteArray => (ltoOp o.1 o.2.1 o.2.2)) dOp l l.length 0 (List.replicate l.length dOp) (by simp) (by simp)
  simp only [List.take_zero, List.nil_append, List.drop_zero] at e
  have e2 : l.map (fun o : Int × ByteArray × ByteArray => (ltoOp o.1 o.2.1 o.2.2)) = l := by
    rw [show (fun o : Int × ByteArray × ByteArray => (ltoOp o.1 o.2.1 o.2.2)) = id from funext fun _ => rfl, List.map_id]
  rw [e2] at e
  exact e
theorem szOp_spec (k : Int) (s v : ByteArray) (b : Int) (h0 : 0 ≤ b) (h1 : b ≤ 1048576) (hs : bigS s = true) (hv : bigS v = true) (h : 0 ≤ lszOp k s v b) : lszOp k s v b ≤ b ∧ okS s = true ∧ okS v = true := by
  simp only [bigS, decide_eq_true_eq] at hs hv
  have e1 := wrap64 (n := b - ((s.size : Nat) : Int)) (by omega) (by omega)
  simp only [lszOp, e1] at h ⊢
  cases hd : decide (b - ((s.size : Nat) : Int) < 0) with
  | true => rw [hd] at h; simp at h
  | false =>
    rw [hd] at h
    have := of_decide_eq_false hd
    have e2 := wrap64 (n := b - ((s.size : Nat) : Int) - ((v.size : Nat) : Int)) (by omega) (by omega)
    simp only [cond_false, e2] at h ⊢
    cases hd2 : decide (b - ((s.size : Nat) : Int) - ((v.size : Nat) : Int) < 0) with
    | true => rw [hd2] at h; simp at h
    | false =>
      have := of_decide_eq_false hd2
      simp only [cond_false, okS, decide_eq_true_eq]
      omega
theorem szOpS_spec (l : List (Int × ByteArray × ByteArray)) (b : Int) (h0 : 0 ≤ b) (h1 : b ≤ 1048576) (hb : bigOps l = true) (h : 0 ≤ lszOpS l b) : lszOpS l b ≤ b ∧ okOps l = true := by
  have hl : l.length ≤ 9223372036854775807 := by simp only [bigOps, Bool.and_eq_true, decide_eq_true_eq] at hb; exact hb.1
  have e1 := wrap64 (n := b - ((l.length : Nat) : Int)) (by omega) (by omega)
  simp only [lszOpS, e1, Int.toNat_zero, Nat.sub_zero] at h ⊢
  cases hd : decide (b - ((l.length : Nat) : Int) < 0) with
  | true => rw [hd] at h; simp at h
  | false =>
    rw [hd] at h
    have := of_decide_eq_false hd
    simp only [cond_false] at h ⊢
    cases hi : isInl (szN (f_lszOpS_0 l) l.length 0 (b - ((l.length : Nat) : Int))) with
    | false => rw [hi] at h; simp at h
    | true =>
      obtain ⟨r1, r2, r3⟩ := szN_all (M := 1048576) (Q := fun i => okS (l.getD i dOp).2.1 = true ∧ okS (l.getD i dOp).2.2 = true) l.length 0 (b - ((l.length : Nat) : Int)) (fun j b' _ hj q0 q1 hf => by
        obtain ⟨p1, p2⟩ := bigOps_at hb j (by omega)
        obtain ⟨s1, s2, s3⟩ := szOp_spec _ _ _ b' q0 q1 p1 p2 hf
        exact ⟨⟨s2, s3⟩, s1⟩) (by omega) (by omega) hi
      simp only [cond_true]
      exact ⟨by omega, okOps_of (by omega) (fun i hi => r1 i (Nat.zero_le _) (by omega))⟩
noncomputable def shO (n : Int) (o : Int × ByteArray × ByteArray) : Int := iShardOf o.2.1 n
theorem okOps_key {l : List (Int × ByteArray × ByteArray)} (h : okOps l = true) {o : Int × ByteArray × ByteArray} (ho : o ∈ l) : o.2.1.size ≤ 1048576 := (okOps_mem h o ho).1
theorem getD_mem {α : Type} {l : List α} {i : Nat} (h : i < l.length) (d : α) : l.getD i d ∈ l := by
  simp [List.getD_eq_getElem?_getD, h]
theorem bt_nat (s : ByteArray) (i : Int) : ∃ n : Nat, bt s i = (n : Int) ∧ n < 256 := by
  unfold bt
  split
  · exact ⟨_, rfl, UInt8.toNat_lt _⟩
  · exact ⟨0, rfl, by decide⟩
theorem wrapU32 (n : Nat) : IntKind.wrap .u32 (n : Int) = ((n % 4294967296 : Nat) : Int) := by
  show (if (false && decide ((n : Int) % (2 ^ 32 : Int) ≥ (2 ^ 31 : Int))) = true then (n : Int) % (2 ^ 32 : Int) - (2 ^ 32 : Int) else (n : Int) % (2 ^ 32 : Int)) = _
  simp only [Bool.false_and, Bool.false_eq_true, if_false]; omega
theorem xor_lt32 {a b : Nat} (ha : a < 4294967296) (hb : b < 4294967296) : a ^^^ b < 4294967296 := Nat.xor_lt_two_pow (n := 32) ha hb
theorem ofInt32 (n : Nat) (h : n < 4294967296) : (BitVec.ofInt 32 (n : Int)).toNat = n := by
  simp [BitVec.toNat_ofInt]; omega
theorem ixor32 {a b : Nat} (ha : a < 4294967296) (hb : b < 4294967296) : ixor .u32 (a : Int) (b : Int) = ((a ^^^ b : Nat) : Int) := by
  have h := xor_lt32 ha hb
  show IntKind.wrap .u32 (((BitVec.ofInt 32 (a : Int) ^^^ BitVec.ofInt 32 (b : Int)).toNat : Nat) : Int) = _
  rw [BitVec.toNat_xor, ofInt32 a ha, ofInt32 b hb, wrapU32, Nat.mod_eq_of_lt h]
theorem ofInt_nat (n : Nat) (h : n < 18446744073709551616) : (BitVec.ofInt 64 (n : Int)).toNat = n := by
  simp [BitVec.toNat_ofInt]; omega
theorem ixor64 {a b : Nat} (ha : a < 4294967296) (hb : b < 4294967296) : ixor .i64 (a : Int) (b : Int) = ((a ^^^ b : Nat) : Int) := by
  have h := xor_lt32 ha hb
  show IntKind.wrap .i64 (((BitVec.ofInt 64 (a : Int) ^^^ BitVec.ofInt 64 (b : Int)).toNat : Nat) : Int) = _
  rw [BitVec.toNat_xor, ofInt_nat a (by omega), ofInt_nat b (by omega)]
  exact wrap64 (by omega) (by omega)
theorem iand32 (n : Nat) (h : n < 9223372036854775808) : iand .i64 (n : Int) 4294967295 = ((n % 4294967296 : Nat) : Int) := by
  show IntKind.wrap .i64 (((BitVec.ofInt 64 (n : Int) &&& BitVec.ofInt 64 ((4294967295 : Nat) : Int)).toNat : Nat) : Int) = _
  rw [BitVec.toNat_and, ofInt_nat n (by omega), ofInt_nat 4294967295 (by omega), show (4294967295 : Nat) = 2 ^ 32 - 1 from rfl, Nat.and_two_pow_sub_one_eq_mod]
  exact wrap64 (by omega) (by omega)
/-- The two hashes, side by side. -/
theorem hash_sim {s : ByteArray} (hs : s.size ≤ 1048576) : ∃ h : Nat, h < 4294967296 ∧ it_iHash_0 s 2166136261 0 = (0, (h : Int)) ∧ it_sHash_0 s 2166136261 0 = (0, (h : Int)) := by
  have key := itX_sim (ss := fun v : V_iHash_0 => ss_iHash_0 v.1 v.2.1 v.2.2) (fa := fl_iHash_0) (tt := fun v : V_sHash_0 => ss_sHash_0 v.1 v.2.1 v.2.2) (fb := fl_sHash_0) (v := (s, 2166136261, 0)) (w := (s, 2166136261, 0))
    (fun v w => ∃ h i : Nat, v = (s, (h : Int), (i : Int)) ∧ w = (s, (h : Int), (i : Int)) ∧ h < 4294967296 ∧ i ≤ s.size) (fun a b => ∃ h : Nat, h < 4294967296 ∧ a = (0, (h : Int)) ∧ b = (0, (h : Int))) (fun v => s.size - v.2.2.toNat) (fun v w hr => by
      obtain ⟨h, i, rfl, rfl, h1, h2⟩ := hr
      by_cases hi : i < s.size
      · have e1 : decide ((i : Int) < ((s.size : Nat) : Int)) = true := decide_eq_true (by omega)
        have e2 : decide (0 ≤ (i : Int) ∧ (i : Int) < ((s.size : Nat) : Int)) = true := decide_eq_true (by omega)
        obtain ⟨b, hb, hb2⟩ := bt_nat s (i : Int)
        have w1 : IntKind.wrap .u32 (b : Int) = (b : Int) := by rw [wrapU32]; omega
        have w2 : IntKind.wrap .i64 (b : Int) = (b : Int) := wrap64 (by omega) (by omega)
        have hx := xor_lt32 h1 (show b < 4294967296 by omega)
        have c1 : ((h ^^^ b : Nat) : Int) * 16777619 = (((h ^^^ b) * 16777619 : Nat) : Int) := by simp
        have w3 : IntKind.wrap .i64 ((((h ^^^ b) * 16777619 : Nat) : Int)) = (((h ^^^ b) * 16777619 : Nat) : Int) := wrap64 (by omega) (by omega)
        refine .inl ⟨(s, (((h ^^^ b) * 16777619 % 4294967296 : Nat) : Int), ((i + 1 : Nat) : Int)), (s, (((h ^^^ b) * 16777619 % 4294967296 : Nat) : Int), ((i + 1 : Nat) : Int)), ?_, ?_, ⟨_, i + 1, rfl, rfl, Nat.mod_lt _ (by decide), by omega⟩, by simp only [Int.toNat_natCast]; omega⟩
        · simp only [ss_iHash_0, e1, e2, cond_true, hb, w1, ixor32 h1 (show b < 4294967296 by omega), c1, wrapU32, wrapU i (by omega)]
        · simp only [ss_sHash_0, e1, e2, cond_true, hb, w2, ixor64 h1 (show b < 4294967296 by omega), c1, w3, iand32 _ (show (h ^^^ b) * 16777619 < 9223372036854775808 by omega), wrapU i (by omega)]
      · have e1 : decide ((i : Int) < ((s.size : Nat) : Int)) = false := decide_eq_false (by omega)
        exact .inr ⟨_, _, by simp only [ss_iHash_0, e1, cond_false], by simp only [ss_sHash_0, e1, cond_false], h, h1, rfl, rfl⟩) ⟨2166136261, 0, rfl, rfl, by decide, Nat.zero_le _⟩ (by simp; omega)
  obtain ⟨h, h1, h2, h3⟩ := key
  exact ⟨h, h1, h2, h3⟩
/-- The shard of a key. -/
theorem shardOf_spec {s : ByteArray} (hs : s.size ≤ 1048576) (n : Int) : q_iShardOf s n = true ∧ q_sShardOf s n = true ∧ iShardOf s n = sShardOf s n ∧ 0 ≤ iShardOf s n ∧ (1 ≤ n → iShardOf s n < n) := by
  obtain ⟨h, h1, h2, h3⟩ := hash_sim hs
  have w : IntKind.wrap .i64 (h : Int) = (h : Int) := wrap64 (by omega) (by omega)
  simp only [q_iShardOf, q_sShardOf, iShardOf, sShardOf, q_iHash, q_sHash, iHash, sHash, h2, h3, w]
  by_cases hn : n < 1
  · simp only [decide_eq_true hn, cond_true]
    exact ⟨trivial, trivial, trivial, Int.le_refl _, fun h => by omega⟩
  · have e : decide (n ≠ 0) = true := decide_eq_true (by omega)
    simp only [decide_eq_false hn, cond_false, e]
    exact ⟨rfl, rfl, trivial, Int.tmod_nonneg _ (by omega), fun _ => Int.tmod_lt_of_pos _ (by omega)⟩
theorem take_succ_getD {α : Type} {l : List α} {i : Nat} (hi : i < l.length) (d : α) : l.take (i + 1) = l.take i ++ [l.getD i d] := by
  rw [List.take_add_one, List.getElem?_eq_getElem hi]; simp [List.getD_eq_getElem?_getD, hi]
theorem l7Has_spec {l : List Int} (hl : l.length ≤ 1048576) (x : Int) : q_sl7Has l x = true ∧ sl7Has l x = decide (x ∈ l) := by
  have key : it_sl7Has_0 l x 0 = (0, true) ∧ x ∈ l ∨ it_sl7Has_0 l x 0 = (1, false) ∧ x ∉ l := by
    refine itX_inv (fun v : V_sl7Has_0 => ∃ i : Nat, v = (l, x, (i : Int)) ∧ i ≤ l.length ∧ x ∉ l.take i) (fun a : A_sl7Has_0 => a = (0, true) ∧ x ∈ l ∨ a = (1, false) ∧ x ∉ l) (fun v => l.length - v.2.2.toNat) ?_ ⟨0, rfl, Nat.zero_le _, by simp⟩ (by simp; omega)
    rintro v ⟨i, rfl, hi, hx⟩
    by_cases hlt : i < l.length
    · have e1 : decide ((i : Int) < ((l.length : Nat) : Int)) = true := decide_eq_true (by omega)
      have e2 : decide (0 ≤ (i : Int) ∧ (i : Int) < ((l.length : Nat) : Int)) = true := decide_eq_true (by omega)
      simp only [ss_sl7Has_0, e1, e2, cond_true, Int.toNat_natCast, wrapU i (by omega)]
      cases hc : (l.getD i 0 == x) with
      | true => exact .inr ⟨_, rfl, .inl ⟨rfl, by have := getD_mem hlt 0; simp only [beq_iff_eq] at hc; rw [hc] at this; exact this⟩⟩
      | false =>
        refine .inl ⟨_, rfl, ⟨i + 1, rfl, by omega, ?_⟩, by simp only [Int.toNat_natCast]; omega⟩
        rw [take_succ_getD hlt 0]
        simp only [beq_eq_false_iff_ne] at hc
        simp only [List.mem_append, List.mem_singleton, not_or]
        exact ⟨hx, fun h => hc h.symm⟩
    · obtain rfl : i = l.length := by omega
      have e1 : decide ((l.length : Int) < ((l.length : Nat) : Int)) = false := decide_eq_false (by omega)
      simp only [ss_sl7Has_0, e1, cond_false]
      rw [List.take_length] at hx
      exact .inr ⟨_, rfl, .inr ⟨rfl, hx⟩⟩
  simp only [q_sl7Has, sl7Has]
  rcases key with ⟨h1, h2⟩ | ⟨h1, h2⟩
  · rw [h1, decide_eq_true h2]; exact ⟨rfl, rfl⟩
  · rw [h1, decide_eq_false h2]; exact ⟨rfl, rfl⟩
theorem set_mid {α : Type} (a b : List α) (y x : α) : (a ++ y :: b).set a.length x = a ++ x :: b := by
  rw [List.set_append_right _ _ (Nat.le_refl _), Nat.sub_self]; rfl
theorem pw_take {α : Type} {R : α → α → Prop} {l : List α} (h : l.Pairwise R) (i : Nat) (hi : i < l.length) (d : α) : ∀ x ∈ l.take i, R x (l.getD i d) := by
  intro x hx
  obtain ⟨j, hj, rfl⟩ := List.getElem_of_mem hx
  rw [List.length_take] at hj
  have := List.pairwise_iff_getElem.1 h j i (by omega) hi (by omega)
  simpa [List.getD_eq_getElem?_getD, hi] using this
theorem l7Put_spec {l : List Int} (hl : l.length ≤ 1048576) (hs : l.Pairwise (· < ·)) (x : Int) : q_sl7Put_w1 l x = true ∧ (sl7Put_w1 l x).Pairwise (· < ·) ∧ (sl7Put_w1 l x).length ≤ l.length + 1 ∧ ∀ z, z ∈ sl7Put_w1 l x ↔ z ∈ l ∨ z = x := by
  obtain ⟨h1, h2⟩ := l7Has_spec hl x
  by_cases hx : x ∈ l
  · simp only [q_sl7Put_w1, sl7Put_w1, h1, h2, decide_eq_true hx, cond_true, Bool.true_and]
    exact ⟨trivial, hs, by omega, fun z => ⟨.inl, fun h => h.elim id (fun h => h ▸ hx)⟩⟩
  · have key : ∃ (k : Nat) (y : Int), it_sl7Put_w1_0 x (l.length : Int) (l ++ [x]) = (0, x, (k : Int), l.take k ++ y :: l.drop k) ∧ k ≤ l.length ∧ (∀ z ∈ l.drop k, x < z) ∧ ∀ z ∈ l.take k, z < x := by
      refine itX_inv (fun v : V_sl7Put_w1_0 => ∃ (k : Nat) (y : Int), v = (x, (k : Int), l.take k ++ y :: l.drop k) ∧ k ≤ l.length ∧ ∀ z ∈ l.drop k, x < z) (fun a : A_sl7Put_w1_0 => ∃ (k : Nat) (y : Int), a = (0, x, (k : Int), l.take k ++ y :: l.drop k) ∧ k ≤ l.length ∧ (∀ z ∈ l.drop k, x < z) ∧ ∀ z ∈ l.take k, z < x) (fun v => v.2.1.toNat) ?_ ⟨l.length, x, by rw [List.take_length, List.drop_length], Nat.le_refl _, by simp⟩ (by simp; omega)
      rintro v ⟨k, y, rfl, hk, hd⟩
      have hlen : (l.take k ++ y :: l.drop k).length = l.length + 1 := by simp; omega
      cases k with
      | zero =>
        have e1 : decide (((0 : Nat) : Int) > 0) = false := by decide
        simp only [ss_sl7Put_w1_0, e1, cond_false]
        exact .inr ⟨_, rfl, 0, y, rfl, Nat.zero_le _, hd, by simp⟩
      | succ k =>
        have hlt : k < l.length := by omega
        have w : IntKind.wrap .i64 (((k + 1 : Nat) : Int) - 1) = ((k : Nat) : Int) := by rw [wrap64 (by omega) (by omega)]; omega
        have e1 : decide (((k + 1 : Nat) : Int) > 0) = true := decide_eq_true (by omega)
        have e2 : decide (0 ≤ ((k : Nat) : Int) ∧ ((k : Nat) : Int) < (((l.take (k + 1) ++ y :: l.drop (k + 1)).length : Nat) : Int)) = true := decide_eq_true (by omega)
        have e3 : decide (0 ≤ ((k + 1 : Nat) : Int) ∧ ((k + 1 : Nat) : Int) < (((l.take (k + 1) ++ y :: l.drop (k + 1)).length : Nat) : Int)) = true := decide_eq_true (by omega)
        have hg : (l.take (k + 1) ++ y :: l.drop (k + 1)).getD k 0 = l.getD k 0 := by
          rw [List.getD_eq_getElem?_getD, List.getElem?_append_left (by rw [List.length_take]; omega), List.getElem?_take_of_lt (by omega), ← List.getD_eq_getElem?_getD]
        have hset : (l.take (k + 1) ++ y :: l.drop (k + 1)).set (k + 1) (l.getD k 0) = l.take k ++ l.getD k 0 :: l.drop k := by
          have hk1 : (l.take (k + 1)).length = k + 1 := by rw [List.length_take]; omega
          have := set_mid (l.take (k + 1)) (l.drop (k + 1)) y (l.getD k 0)
          rw [hk1] at this
          rw [this, take_succ_getD hlt 0, List.append_assoc]
          have hd2 : l.drop k = l.getD k 0 :: l.drop (k + 1) := by
            rw [List.drop_eq_getElem_cons hlt]; simp [List.getD_eq_getElem?_getD, hlt]
          rw [hd2]; rfl
        simp only [ss_sl7Put_w1_0, w, e1, e2, e3, hg, hset, cond_true, Int.toNat_natCast]
        by_cases hgt : l.getD k 0 > x
        · simp only [decide_eq_true hgt, cond_true]
          refine .inl ⟨_, rfl, ⟨k, l.getD k 0, rfl, by omega, fun z hz => ?_⟩, by simp only [Int.toNat_natCast]; omega⟩
          have hd2 : l.drop k = l.getD k 0 :: l.drop (k + 1) := by
            rw [List.drop_eq_getElem_cons hlt]; simp [List.getD_eq_getElem?_getD, hlt]
          rw [hd2] at hz
          rcases List.mem_cons.1 hz with rfl | hz
          · exact hgt
          · exact hd z hz
        · simp only [decide_eq_false hgt, cond_false]
          refine .inr ⟨_, rfl, k + 1, y, rfl, hk, hd, fun z hz => ?_⟩
          have hzl : z ∈ l := List.mem_of_mem_take hz
          have hne : z ≠ x := fun h => hx (h ▸ hzl)
          rw [take_succ_getD hlt 0] at hz
          rcases List.mem_append.1 hz with hz | hz
          · have := pw_take hs k hlt 0 z hz; omega
          · simp only [List.mem_singleton] at hz; omega
    obtain ⟨k, y, e, hk, hd, ht⟩ := key
    have hlen : (l.take k ++ y :: l.drop k).length = l.length + 1 := by simp; omega
    have w : IntKind.wrap .i64 ((((([] : List Int) ++ l) ++ [x]).length : Int) - 1) = (l.length : Int) := by rw [List.nil_append, List.length_append, List.length_singleton, wrap64 (by omega) (by omega)]; omega
    have hk1 : (l.take k).length = k := by rw [List.length_take]; omega
    have hset := set_mid (l.take k) (l.drop k) y x
    rw [hk1] at hset
    have m1 : decide ((([] : List Int).length + l.length) * 8 ≤ MAXB) = true := decide_eq_true (by simp only [List.length_nil, MAXB]; omega)
    have m2 : decide (((([] : List Int) ++ l).length + [x].length) * 8 ≤ MAXB) = true := decide_eq_true (by simp only [List.nil_append, List.length_singleton, MAXB]; omega)
    have m3 : decide (0 ≤ (k : Int) ∧ (k : Int) < (((l.take k ++ y :: l.drop k).length : Nat) : Int)) = true := decide_eq_true (by omega)
    have k1 : k1_sl7Put_w1 l x = (0, x, (k : Int), l.take k ++ y :: l.drop k) := by rw [k1_sl7Put_w1, w, List.nil_append, e]
    simp only [q_sl7Put_w1, sl7Put_w1, h1, h2, decide_eq_false hx, cond_false, m1, m2, k1, m3, Int.toNat_natCast, hset, Bool.true_and]
    have hs' := hs
    rw [← List.take_append_drop k l, List.pairwise_append] at hs'
    obtain ⟨p1, p2, p3⟩ := hs'
    refine ⟨rfl, List.pairwise_append.2 ⟨p1, List.pairwise_cons.2 ⟨hd, p2⟩, fun a ha b hb => ?_⟩, by simp; omega, fun z => ?_⟩
    · rcases List.mem_cons.1 hb with rfl | hb
      · exact ht a ha
      · exact p3 a ha b hb
    · have : z ∈ l ↔ z ∈ l.take k ∨ z ∈ l.drop k := by
        rw [← List.mem_append, List.take_append_drop]
      rw [this, List.mem_append, List.mem_cons]
      constructor
      · rintro (h | h | h)
        · exact .inl (.inl h)
        · exact .inr h
        · exact .inl (.inr h)
      · rintro ((h | h) | h)
        · exact .inl h
        · exact .inr (.inr h)
        · exact .inr (.inl h)
theorem sShardsOf_spec {l : List (Int × ByteArray × ByteArray)} (ho : okOps l = true) (n : Int) : q_sShardsOf l n = true ∧ (sShardsOf l n).Pairwise (· < ·) ∧ ∀ z, z ∈ sShardsOf l n ↔ z ∈ l.map (shO n) := by
  have hl := okOps_len ho
  have key : ∃ r : List Int, it_sShardsOf_0 l n [] 0 = (0, r) ∧ r.Pairwise (· < ·) ∧ ∀ z, z ∈ r ↔ z ∈ l.map (shO n) := by
    refine itX_inv (fun v : V_sShardsOf_0 => ∃ (i : Nat) (r : List Int), v = (l, n, r, (i : Int)) ∧ i ≤ l.length ∧ r.Pairwise (· < ·) ∧ r.length ≤ i ∧ ∀ z, z ∈ r ↔ z ∈ (l.take i).map (shO n)) (fun a : A_sShardsOf_0 => ∃ r : List Int, a = (0, r) ∧ r.Pairwise (· < ·) ∧ ∀ z, z ∈ r ↔ z ∈ l.map (shO n)) (fun v => l.length - v.2.2.2.toNat) ?_ ⟨0, [], rfl, Nat.zero_le _, .nil, Nat.le_refl _, by simp⟩ (by simp; omega)
    rintro v ⟨i, r, rfl, hi, hp, hr, hm⟩
    by_cases hlt : i < l.length
    · have e1 : decide ((i : Int) < ((l.length : Nat) : Int)) = true := decide_eq_true (by omega)
      have e2 : decide (0 ≤ (i : Int) ∧ (i : Int) < ((l.length : Nat) : Int)) = true := decide_eq_true (by omega)
      have hk := okOps_key ho (getD_mem hlt dOp)
      obtain ⟨_, q1, q2, _⟩ := shardOf_spec hk n
      obtain ⟨p1, p2, p3, p4⟩ := l7Put_spec (l := r) (by omega) hp (sShardOf (l.getD i dOp).2.1 n)
      have hd : ((0 : Int), ((⟨#[]⟩ : ByteArray), (⟨#[]⟩ : ByteArray))) = dOp := rfl
      simp only [ss_sShardsOf_0, k1_sShardsOf, hd, e1, e2, cond_true, Int.toNat_natCast, q1, p1, wrapU i (by omega)]
      refine .inl ⟨_, rfl, ⟨i + 1, _, rfl, by omega, p2, by omega, fun z => ?_⟩, by simp only [Int.toNat_natCast]; omega⟩
      rw [p4, hm, take_succ_getD hlt dOp, List.map_append, List.mem_append, ← q2]
      simp only [List.map_cons, List.map_nil, List.mem_singleton, shO]
    · obtain rfl : i = l.length := by omega
      have e1 : decide ((l.length : Int) < ((l.length : Nat) : Int)) = false := decide_eq_false (by omega)
      simp only [ss_sShardsOf_0, e1, cond_false]
      rw [List.take_length] at hm
      exact .inr ⟨_, rfl, r, rfl, hp, hm⟩
  obtain ⟨r, e, h1, h2⟩ := key
  simp only [q_sShardsOf, sShardsOf, e]
  exact ⟨rfl, h1, h2⟩
theorem compactUpTo_len (zs : Array Int) : ∀ m, (Lib.compactUpTo zs m).length ≤ m
  | 0 => by simp [Lib.compactUpTo]
  | m + 1 => by
    have := compactUpTo_len zs m
    rw [Lib.compactUpTo_succ]
    by_cases hk : Lib.keeps zs m = true
    · rw [if_pos hk, List.length_append]; simp; omega
    · rw [if_neg hk, List.append_nil]; omega
theorem compact_len (l : List Int) : (Lib.compact (sortL l)).length ≤ l.length := by
  have h := compactUpTo_len (sortL l).toArray (sortL l).length
  have e : (sortL l).length = l.length := by simp [sortL]
  rw [e] at h
  exact Nat.le_trans (Nat.le_of_eq (by simp [Lib.compact, e])) h
theorem iShardsOf_it {l : List (Int × ByteArray × ByteArray)} (ho : okOps l = true) (n : Int) : it_iShardsOf_0 n l ((l.length : Nat) : Int) 0 [] = (0, l.map (shO n)) := by
  have hl := okOps_len ho
  refine itX_inv (fun v : V_iShardsOf_0 => ∃ i : Nat, v = (n, l, (l.length : Int), (i : Int), (l.take i).map (shO n)) ∧ i ≤ l.length) (fun a : A_iShardsOf_0 => a = (0, l.map (shO n))) (fun v => l.length - v.2.2.2.1.toNat) ?_ ⟨0, by simp, Nat.zero_le _⟩ (by simp; omega)
  rintro v ⟨i, rfl, hi⟩
  by_cases hlt : i < l.length
  · have e1 : decide ((i : Int) < (l.length : Int)) = true := decide_eq_true (by omega)
    have e2 : decide (0 ≤ (i : Int) ∧ (i : Int) < ((l.length : Nat) : Int)) = true := decide_eq_true (by omega)
    have hm : ∀ x : Int, decide ((((l.take i).map (shO n)).length + [x].length) * 8 ≤ MAXB) = true := fun x => decide_eq_true (by simp only [List.length_map, List.length_take, List.length_singleton, MAXB]; omega)
    have hk := okOps_key ho (getD_mem hlt dOp)
    have hq := (shardOf_spec hk n).1
    simp only [dOp] at hq
    simp only [ss_iShardsOf_0, e1, e2, cond_true, Int.toNat_natCast, hq, hm, k1_iShardsOf, wrapU i (by omega)]
    refine .inl ⟨_, rfl, ⟨i + 1, ?_, by omega⟩, by simp only [Int.toNat_natCast]; omega⟩
    rw [take_succ_getD hlt dOp, List.map_append]
    rfl
  · obtain rfl : i = l.length := by omega
    have e1 : decide ((l.length : Int) < (l.length : Int)) = false := decide_eq_false (by omega)
    simp only [ss_iShardsOf_0, e1, cond_false]
    exact .inr ⟨_, rfl, by rw [List.take_length]⟩
theorem iShardsOf_arr {l : List (Int × ByteArray × ByteArray)} (ho : okOps l = true) (n : Int) : q_iShardsOf l n = true ∧ ∃ (m : Nat) (h : List Int), iShardsOf l n = (0, m, h) ∧ m ≤ h.length ∧ h.length ≤ 1048576 ∧ h.take m = Lib.compact (sortL (l.map (shO n))) := by
  have hl := okOps_len ho
  have q1 : ∀ x : List Int, x.length = l.length → q_sortL x = true := fun x hx => decide_eq_true (by omega)
  have hc := compact_len (l.map (shO n))
  have e1 : (sortL (l.map (shO n))).length = l.length := by simp [sortL]
  have e2 : (l.map (shO n)).length = l.length := by simp
  simp only [q_iShardsOf, iShardsOf, k2_iShardsOf, iShardsOf_it ho n, slices_Clip_int, q_slices_Clip_int, q1 _ e2, q1 _ e1, compactP]
  refine ⟨by simp, _, _, rfl, ?_, ?_, ?_⟩
  · rw [Int.toNat_natCast, List.length_append]; omega
  · rw [List.length_append, List.length_replicate]; omega
  · rw [Int.toNat_natCast, List.take_left]
theorem pw_snoc {α : Type} {R : α → α → Prop} {h : List α} {x : α} (h1 : h.Pairwise R) (h2 : ∀ y ∈ h, R y x) : (h ++ [x]).Pairwise R := by
  rw [List.pairwise_append]
  exact ⟨h1, by simp, fun a ha b hb => by simp at hb; subst hb; exact h2 a ha⟩
/-- What compacting leaves of numbers in order. -/
theorem compact_inv {zs : List Int} (hs : zs.Pairwise (· ≤ ·)) : ∀ m, m ≤ zs.length → (∀ x ∈ Lib.compactUpTo zs.toArray m, x ∈ zs) ∧ (∀ j, j < m → zs.getD j 0 ∈ Lib.compactUpTo zs.toArray m) ∧ (Lib.compactUpTo zs.toArray m).Pairwise (· < ·) ∧ (∀ x ∈ Lib.compactUpTo zs.toArray m, x ≤ zs.getD (m - 1) 0) := by
  have hg : ∀ j, j < zs.length → zs.toArray[j]! = zs.getD j 0 := fun j hj => by
    rw [getElem!_pos zs.toArray j (by simpa using hj)]; simp [List.getD_eq_getElem?_getD, hj]
  intro m
  induction m with
  | zero => intro _; exact ⟨fun x hx => by simp [Lib.compactUpTo] at hx, fun j hj => by omega, by simp [Lib.compactUpTo], fun x hx => by simp [Lib.compactUpTo] at hx⟩
  | succ m ih =>
    intro hm
    obtain ⟨i1, i2, i3, i4⟩ := ih (by omega)
    rw [Lib.compactUpTo_succ]
    have hmz : zs.getD m 0 ∈ zs := getD_mem (by omega) _
    by_cases hk : Lib.keeps zs.toArray m = true
    · rw [if_pos hk, hg m (by omega)]
      have hlt : ∀ x ∈ Lib.compactUpTo zs.toArray m, x < zs.getD m 0 := by
        intro x hx
        have hm0 : 0 < m := by
          cases m with
          | zero => simp [Lib.compactUpTo] at hx
          | succ m => omega
        have h1 := i4 x hx
        have h2 := List.pairwise_iff_getElem.1 hs (m - 1) m (by omega) (by omega) (by omega)
        have e1 : zs.getD (m - 1) 0 = zs[m - 1] := by simp [List.getD_eq_getElem?_getD, show m - 1 < zs.length by omega]
        have e2 : zs.getD m 0 = zs[m] := by simp [List.getD_eq_getElem?_getD, show m < zs.length by omega]
        have h3 : zs.getD m 0 ≠ zs.getD (m - 1) 0 := by
          simp only [Lib.keeps, decide_eq_true_eq] at hk
          rcases hk with hk | hk
          · omega
          · rw [hg m (by omega), hg (m - 1) (by omega)] at hk; exact hk
        rw [e1] at h1 h3
        rw [e2] at h3 ⊢
        omega
      refine ⟨fun x hx => ?_, fun j hj => ?_, pw_snoc i3 hlt, fun x hx => ?_⟩
      · rcases List.mem_append.1 hx with hx | hx
        · exact i1 x hx
        · simp at hx; rw [hx]; simpa using hmz
      · by_cases e : j = m
        · subst e; simp
        · exact List.mem_append_left _ (i2 j (by omega))
      · rw [Nat.add_sub_cancel]
        rcases List.mem_append.1 hx with hx | hx
        · exact Int.le_of_lt (hlt x hx)
        · simp only [List.mem_singleton] at hx; rw [hx]; exact Int.le_refl _
    · have hk' : Lib.keeps zs.toArray m = false := by simpa using hk
      have hm0 : ¬ m = 0 := by
        intro e; subst e; simp [Lib.keeps] at hk
      have heq : zs.getD m 0 = zs.getD (m - 1) 0 := by
        simp only [Lib.keeps, decide_eq_false_iff_not, not_or, Classical.not_not] at hk'
        rw [hg m (by omega), hg (m - 1) (by omega)] at hk'
        exact hk'.2
      rw [if_neg hk, List.append_nil]
      refine ⟨i1, fun j hj => ?_, i3, fun x hx => ?_⟩
      · by_cases e : j = m
        · subst e; rw [heq]; exact i2 (j - 1) (by omega)
        · exact i2 j (by omega)
      · rw [Nat.add_sub_cancel, heq]; exact i4 x hx
theorem sortL_sorted (l : List Int) : (sortL l).Pairwise (· ≤ ·) := by
  have h := List.pairwise_mergeSort (le := fun x y : Int => decide (x ≤ y)) (fun a b c h1 h2 => by simp at *; omega) (fun a b => by simp; omega) l
  exact h.imp (fun h => by simpa using h)
theorem sortL_mem (l : List Int) (x : Int) : x ∈ sortL l ↔ x ∈ l := by simp [sortL]
theorem compact_spec (l : List Int) : (Lib.compact (sortL l)).Pairwise (· < ·) ∧ ∀ x, x ∈ Lib.compact (sortL l) ↔ x ∈ l := by
  obtain ⟨i1, i2, i3, _⟩ := compact_inv (sortL_sorted l) (sortL l).length (Nat.le_refl _)
  refine ⟨i3, fun x => ⟨fun h => (sortL_mem l x).1 (i1 x h), fun h => ?_⟩⟩
  obtain ⟨j, hj, e⟩ := List.getElem_of_mem ((sortL_mem l x).2 h)
  have := i2 j hj
  rw [List.getD_eq_getElem?_getD, List.getElem?_eq_getElem hj, Option.getD_some, e] at this
  exact this
theorem getD_set {α : Type} {l : List α} {i : Nat} (hi : i < l.length) (x d : α) : (l.set i x).getD i d = x := by
  simp [List.getD_eq_getElem?_getD, hi]
theorem markInts_spec {h : List Int} {m : Nat} (hm : m ≤ h.length) (hh : h.length ≤ 1048576) : q_lmarkIntS 0 m 1 h = true ∧ (lmarkIntS 0 m 1 h).1 = 1 + (m : Int) ∧ (lmarkIntS 0 m 1 h).2.length = h.length ∧ ∀ j, j < m → (lmarkIntS 0 m 1 h).2.getD j 0 = 1 + (j : Int) := by
  have key : ∃ r : List Int, it_lmarkIntS_0 0 m 1 0 h = (0, 1 + (m : Int), r) ∧ r.length = h.length ∧ ∀ j, j < m → r.getD j 0 = 1 + (j : Int) := by
    refine itX_inv (fun v : V_lmarkIntS_0 => ∃ (i : Nat) (r : List Int), v = (0, m, 1 + (i : Int), (i : Int), r) ∧ i ≤ m ∧ r.length = h.length ∧ ∀ j, j < i → r.getD j 0 = 1 + (j : Int)) (fun a : A_lmarkIntS_0 => ∃ r : List Int, a = (0, 1 + (m : Int), r) ∧ r.length = h.length ∧ ∀ j, j < m → r.getD j 0 = 1 + (j : Int)) (fun v => m - v.2.2.2.1.toNat) ?_ ⟨0, h, rfl, Nat.zero_le _, rfl, fun j hj => by omega⟩ (by simp; omega)
    rintro v ⟨i, r, rfl, hi, hr, hj⟩
    by_cases hlt : i < m
    · have e1 : decide ((i : Int) < ((m : Nat) : Int)) = true := decide_eq_true (by omega)
      have e2 : decide (0 ≤ (i : Int) ∧ (i : Int) < ((m : Nat) : Int)) = true := decide_eq_true (by omega)
      have w : IntKind.wrap .i64 (1 + (i : Int) + 1) = 1 + ((i + 1 : Nat) : Int) := by rw [wrap64 (by omega) (by omega)]; omega
      simp only [ss_lmarkIntS_0, e1, e2, cond_true, Int.toNat_natCast, wrapU i (by omega), w, Nat.zero_add]
      refine .inl ⟨_, rfl, ⟨i + 1, _, rfl, by omega, by rw [List.length_set]; exact hr, fun j hji => ?_⟩, by simp only [Int.toNat_natCast]; omega⟩
      by_cases hji' : j = i
      · subst hji'; exact getD_set (by omega) _ _
      · rw [List.getD_eq_getElem?_getD, List.getElem?_set_ne (by omega), ← List.getD_eq_getElem?_getD]
        exact hj j (by omega)
    · obtain rfl : i = m := by omega
      have e1 : decide ((i : Int) < ((i : Nat) : Int)) = false := decide_eq_false (by omega)
      simp only [ss_lmarkIntS_0, e1, cond_false]
      exact .inr ⟨_, rfl, r, rfl, hr, hj⟩
  obtain ⟨r, e, h1, h2⟩ := key
  simp only [q_lmarkIntS, lmarkIntS, e]
  exact ⟨rfl, trivial, h1, h2⟩
theorem sorted_ext : ∀ a b : List Int, a.Pairwise (· < ·) → b.Pairwise (· < ·) → (∀ x, x ∈ a ↔ x ∈ b) → a = b
  | [], [], _, _, _ => rfl
  | [], y :: b, _, _, h => absurd ((h y).2 List.mem_cons_self) (by simp)
  | x :: a, [], _, _, h => absurd ((h x).1 List.mem_cons_self) (by simp)
  | x :: a, y :: b, ha, hb, h => by
    obtain ⟨a1, a2⟩ := List.pairwise_cons.1 ha
    obtain ⟨b1, b2⟩ := List.pairwise_cons.1 hb
    have hxy : x = y := by
      rcases List.mem_cons.1 ((h x).1 List.mem_cons_self) with h1 | h1
      · exact h1
      · rcases List.mem_cons.1 ((h y).2 List.mem_cons_self) with h2 | h2
        · exact h2.symm
        · have := b1 x h1; have := a1 y h2; omega
    subst hxy
    rw [sorted_ext a b a2 b2 fun z => ⟨fun hz => ?_, fun hz => ?_⟩]
    · rcases List.mem_cons.1 ((h z).1 (List.mem_cons_of_mem _ hz)) with h1 | h1
      · have := a1 z hz; omega
      · exact h1
    · rcases List.mem_cons.1 ((h z).2 (List.mem_cons_of_mem _ hz)) with h1 | h1
      · have := b1 z hz; omega
      · exact h1
theorem heldN {α : Type} (el : Int → α) (c : Int) (hc : 0 ≤ c ∧ c ≤ 100000) (d : α) (x : List α) (hx : x.length ≤ 1048576) (g : Nat → Int → Int ⊕ Unit)
    (hg : ∀ i k, i < x.length → 0 ≤ k → k ≤ 100000 * ((i : Int) + 1) → x.getD i d = el k → g i k = .inl (k + c)) :
    ∀ n i k, i + n = x.length → 0 ≤ k → k ≤ 100000 * ((i : Int) + 1) → (∀ j, i ≤ j → j < x.length → x.getD j d = el (k + c * ((j - i : Nat) : Int))) → loopN g n i k = .inl (k + c * (n : Int)) := by
  intro n
  induction n with
  | zero => intro i k hi h0 h1 he; simp [loopN]
  | succ n ih =>
    intro i k hi h0 h1 he
    have h2 := he i (Nat.le_refl _) (by omega)
    rw [Nat.sub_self] at h2
    simp only [loopN]
    rw [hg i k (by omega) h0 h1 (by simpa using h2)]
    simp only
    rw [ih (i + 1) (k + c) (by omega) (by omega) (by omega) (fun j hj hl => by
      rw [he j (by omega) hl]
      congr 1
      have : ((j - i : Nat) : Int) = ((j - (i + 1) : Nat) : Int) + 1 := by omega
      rw [this, Int.mul_add]; omega)]
    rw [Int.natCast_add, Int.mul_add]; congr 1; simp; omega
theorem heldInts_spec {l : List Int} (hl : l.length ≤ 1048576) (h : ∀ j, j < l.length → l.getD j 0 = 1 + (j : Int)) : lheldIntS l 1 = 1 + (l.length : Int) := by
  have e := heldN (fun k => k) 1 (by omega) (0 : Int) l hl (f_lheldIntS_0 l) (fun i k hi h0 h1 he => by
    have w : IntKind.wrap .i64 (k + 1) = k + 1 := wrap64 (by omega) (by omega)
    have e : (k != k) = false := by simp
    simp only [f_lheldIntS_0, he, w, e, cond_false]) l.length 0 1 (by omega) (by omega) (by omega) (fun j _ hj => by rw [h j hj]; simp)
  have e2 : lheldIntS l 1 = cond (isInl (loopN (f_lheldIntS_0 l) l.length 0 1)) (getInl (-1) (loopN (f_lheldIntS_0 l) l.length 0 1)) (-1 : Int) := rfl
  rw [e2, e]
  show 1 + 1 * (l.length : Int) = _
  omega
theorem markN {α : Type} (el : Int → α) (c : Int) (hc : 0 ≤ c ∧ c ≤ 100000) (d : α) (f : Nat → Int × List α → Int × List α)
    (hf : ∀ i k (h : List α), i < h.length → 0 ≤ k → k ≤ 100000 * ((i : Int) + 1) → h.length ≤ 1048576 → f i (k, h) = (k + c, h.set i (el k))) :
    ∀ n i k (h : List α), i + n = h.length → 0 ≤ k → k ≤ 100000 * ((i : Int) + 1) → h.length ≤ 1048576 →
      (foldN f n i (k, h)).1 = k + c * (n : Int) ∧ (foldN f n i (k, h)).2.length = h.length ∧ (∀ j, i ≤ j → j < h.length → (foldN f n i (k, h)).2.getD j d = el (k + c * ((j - i : Nat) : Int))) ∧ ∀ j, j < i → (foldN f n i (k, h)).2.getD j d = h.getD j d := by
  intro n
  induction n with
  | zero => intro i k h hi h0 h1 h2; exact ⟨by simp [foldN], rfl, fun j hj hl => by omega, fun j _ => rfl⟩
  | succ n ih =>
    intro i k h hi h0 h1 h2
    simp only [foldN]
    rw [hf i k h (by omega) h0 h1 h2]
    obtain ⟨q1, q2, q3, q4⟩ := ih (i + 1) (k + c) (h.set i (el k)) (by simp; omega) (by omega) (by omega) (by simpa using h2)
    refine ⟨?_, by rw [q2]; simp, fun j hj hl => ?_, fun j hj => ?_⟩
    · rw [q1, Int.natCast_add, Int.mul_add]; simp; omega
    · by_cases e : j = i
      · subst e
        rw [q4 j (by omega)]
        have : j < h.length := hl
        simp [List.getD_eq_getElem?_getD, this]
      · rw [q3 j (by omega) (by simpa using hl)]
        congr 1
        have : ((j - i : Nat) : Int) = ((j - (i + 1) : Nat) : Int) + 1 := by omega
        rw [this, Int.mul_add]; omega
    · rw [q4 j (by omega)]
      have : i ≠ j := by omega
      simp [List.getD_eq_getElem?_getD, List.getElem?_set_ne this]
theorem opsS_marks (l : List (Int × ByteArray × ByteArray)) (h : l.length ≤ 1048576) : 0 ≤ (lmarkOpS 1 l).1 := by
  obtain ⟨q1, _⟩ := markN (fun k => (k, lmarkText (k + 1), lmarkText (k + 1 + 1))) 3 (by omega) dOp f_lmarkOpS_0 (fun i k h hi h0 h1 h2 => by
    have w1 : IntKind.wrap .i64 (k + (1 : Int)) = k + 1 := wrap64 (by omega) (by omega)
    have w2 : IntKind.wrap .i64 (k + 1 + (1 : Int)) = k + 1 + 1 := wrap64 (by omega) (by omega)
    have w3 : IntKind.wrap .i64 (k + 1 + 1 + (1 : Int)) = k + 3 := by rw [wrap64 (by omega) (by omega)]; omega
    simp only [f_lmarkOpS_0, w1, w2, w3, List.set_set, getD_set hi]) l.length 0 1 l (by omega) (by omega) (by omega) h
  have e1 : lmarkOpS 1 l = foldN f_lmarkOpS_0 l.length 0 (1, l) := rfl
  rw [e1, q1]; omega
theorem eqInts_same (l : List Int) : leqIntS l l = true := by
  have e : allF (f_leqIntS_0 l l) (l.length - (0 : Int).toNat) (0 : Int).toNat = true := allF_same _ _ fun j _ _ => by simp [f_leqIntS_0]
  simp only [leqIntS, e, cond_true]
  simp
theorem eqOp_same (k : Int) (s v : ByteArray) : leqOp k s v k s v = true := by simp [leqOp]
theorem eqOpS_same (l : List (Int × ByteArray × ByteArray)) : leqOpS l l = true := by
  have e : allF (f_leqOpS_0 l l) (l.length - (0 : Int).toNat) (0 : Int).toNat = true := allF_same _ _ (fun j _ _ => by simp [f_leqOpS_0, eqOp_same])
  simp only [leqOpS, e, cond_true]
  simp
theorem shardsOf_all {a0 : List (Int × ByteArray × ByteArray)} (a1 : Int) (h : bigT (.sl (.pair (.int .i64) (.pair .str .str))) a0 = true) : q_lFnExactShardsOf a0 a1 = true ∧ lFnExactShardsOf a0 a1 = true := by
  have hb := bigOps_of h
  have hz : q_lszOpS a0 1048576 = true := decide_eq_true ⟨by decide, by decide, bigOps_len hb⟩
  simp only [q_lFnExactShardsOf, lFnExactShardsOf, k1_lFnExactShardsOf, k2_lFnExactShardsOf, k3_lFnExactShardsOf, toOpS_same, hz, Bool.true_and]
  by_cases hd : lszOpS a0 1048576 < 0
  · simp only [decide_eq_true hd, cond_true]; exact ⟨trivial, trivial⟩
  · obtain ⟨_, ho⟩ := szOpS_spec a0 1048576 (by decide) (by decide) hb (by omega)
    have hl := okOps_len ho
    obtain ⟨s1, s2, s3⟩ := sShardsOf_spec ho a1
    obtain ⟨i1, m, r, e, hm, hr, ht⟩ := iShardsOf_arr ho a1
    obtain ⟨c1, c2⟩ := compact_spec (a0.map (shO a1))
    obtain ⟨k1, k2, k3, k4⟩ := markInts_spec hm hr
    have same : r.take m = sShardsOf a0 a1 := by
      rw [ht]; exact sorted_ext _ _ c1 s2 (fun z => by rw [c2, s3])
    have c3 : okL a0 = true := okOps_okL ho
    have hlen : (((lmarkIntS 0 m 1 r).2).take m).length = m := by rw [List.length_take, k3]; omega
    have held := heldInts_spec (l := ((lmarkIntS 0 m 1 r).2).take m) (by omega) (fun j hj => by
      rw [hlen] at hj
      rw [List.getD_eq_getElem?_getD, List.getElem?_take_of_lt hj, ← List.getD_eq_getElem?_getD]
      exact k4 j hj)
    rw [hlen] at held
    have o1 := opsS_marks a0 hl
    have d1 : decide ((lmarkOpS 1 a0).1 < 0) = false := decide_eq_false (by omega)
    have d2 : decide ((1 + (m : Int)) < 0) = false := decide_eq_false (by omega)
    have d3 : okL (r.take m) = true := decide_eq_true (by rw [List.length_take]; omega)
    have d4 : okL (((lmarkIntS 0 m 1 r).2).take m) = true := decide_eq_true (by rw [hlen]; omega)
    have d5 : ((1 + (m : Int)) != (1 + (m : Int))) = false := by simp
    have d6 : decide ((0 : Int) ≤ 1 ∧ (1 : Int) ≤ 100000) = true := by decide
    have d7 : okL (sShardsOf a0 a1) = true := by rw [← same]; exact d3
    simp only [decide_eq_false hd, cond_false, s1, i1, e, List.drop_zero, same, eqInts_same, eqOpS_same, d1, k1, k2, held, d2, d5, q_ltoOpS, q_leqIntS, q_leqOpS, q_lmarkOpS, q_lheldIntS, c3, d4, d6, d7, Bool.not_true, Bool.and_self]
    exact ⟨trivial, trivial⟩
theorem pre_of_lFnExactShardsOf (a0 : List (Int × ByteArray × ByteArray)) (a1 : Int) (h0 : bigT (.sl (.pair (.int .i64) (.pair .str .str))) a0 = true) (h1 : bigT (.int .i64) a1 = true) : pre_lFnExactShardsOf (a0, a1, ()) = true := (shardsOf_all a1 h0).1
theorem exact_lFnExactShardsOf (a0 : List (Int × ByteArray × ByteArray)) (a1 : Int) (h0 : bigT (.sl (.pair (.int .i64) (.pair .str .str))) a0 = true) (h1 : bigT (.int .i64) a1 = true) : lFnExactShardsOf a0 a1 = true := (shardsOf_all a1 h0).2

end Go.Proofs.Ytoddiofedjnapaa.Eng
