/- For any two whole numbers Mul answers as the document's own; draylaw1.NumMuls answers true; no condition. -/
import Derived.Test.YthgjbmmclbpkeaaPNumMulsx2
import Derived.Test.YthgjbmmclbpkeaaWWords
namespace Go.Proofs.Ythgjbmmclbpkeaa.Pure
open Go.RowKit Go.Proofs.Ythgjbmmclbpkeaa.PNumMuls Go.Proofs.YthgjbmmclbpkeaaW.PrintWords Go.Proofs.YthgjbmmclbpkeaaW.PrintLast
set_option linter.unusedVariables false
set_option linter.unusedSimpArgs false

def inn (a : Int) : Bool := decide (-1125899906842624 ≤ a ∧ a ≤ 1125899906842624)
theorem inn_iff (a : Int) : inn a = true ↔ (-1125899906842624 ≤ a ∧ a ≤ 1125899906842624) := by unfold inn; exact decide_eq_true_iff
theorem inn_no (a : Int) : inn a = false ↔ ¬ (-1125899906842624 ≤ a ∧ a ≤ 1125899906842624) := by unfold inn; exact decide_eq_false_iff_not
def sumS : Int → List Int → Int × Bool
  | s, [] => (s, true)
  | s, x :: r => if inn x = true then (if inn (s + x) = true then sumS (s + x) r else (0, false)) else (0, false)
def clipN (a : Int) : Int := if a < -1125899906842624 then -1125899906842624 else if a > 1125899906842624 then 1125899906842624 else a
def satS : Int → List Int → Int
  | s, [] => s
  | s, x :: r => satS (clipN (s + clipN x)) r
theorem clipN_in (a : Int) : inn (clipN a) = true := by
  rw [inn_iff]; unfold clipN; split
  · omega
  · split <;> omega
theorem clipN_same (a : Int) (h : inn a = true) : clipN a = a := by
  rw [inn_iff] at h; unfold clipN; rw [if_neg (by omega), if_neg (by omega)]
theorem clipN_mono (a b : Int) (h : a ≤ b) : clipN a ≤ clipN b := by
  unfold clipN; repeat' split
  all_goals omega
theorem wrap_small (a : Int) (h : -9223372036854775808 ≤ a ∧ a ≤ 9223372036854775807) : wrap64 a = a := by unfold wrap64; omega

theorem rd_drop (l : List Int) (i : Int) (h0 : 0 ≤ i) (h1 : i < (l.length : Int)) : l.drop i.toNat = rd l i :: l.drop (i + 1).toNat := by
  have hi : i.toNat < l.length := by omega
  rw [List.drop_eq_getElem_cons hi, show (i + 1).toNat = i.toNat + 1 by omega]
  congr 1
  unfold rd; rw [List.getD_eq_getElem?_getD, List.getElem?_eq_getElem hi]; rfl

theorem in_eq (a : Int) : num_In.f a = some (inn a) := by
  unfold num_In.f inn
  by_cases h : a ≥ -1125899906842624
  · rw [if_pos h]; by_cases g : a ≤ 1125899906842624
    · rw [decide_eq_true g, decide_eq_true ⟨h, g⟩]
    · rw [decide_eq_false g, decide_eq_false (fun x => g x.2)]
  · rw [if_neg h, decide_eq_false (fun x => h x.1)]

theorem clip_eq (a : Int) : num_Clip.f a (-1125899906842624) 1125899906842624 = some (clipN a) := by
  unfold num_Clip.f clipN
  by_cases h : a < -1125899906842624
  · rw [if_pos h, if_pos h]
  · rw [if_neg h, if_neg h]
    by_cases g : a > 1125899906842624
    · rw [if_pos g, if_pos g]
    · rw [if_neg g, if_neg g]

theorem sum_loop (l : List Int) (hl : l.length ≤ 1152921504606846976) (d : Nat) : ∀ (k : Nat) (s i : Int), inn s = true → 0 ≤ i → i ≤ (l.length : Int) → (l.length : Int) - i = d → d < k →
    num_Sum.l0 k s l (l.length : Int) i = some (sumS s (l.drop i.toNat)) := by
  induction d with
  | zero =>
    intro k s i hs h0 h1 hd hk
    obtain ⟨k, rfl⟩ : ∃ m, k = m + 1 := ⟨k - 1, by omega⟩
    simp only [num_Sum.l0]; rw [if_neg (by omega), List.drop_of_length_le (by omega)]; rfl
  | succ d ih =>
    intro k s i hs h0 h1 hd hk
    obtain ⟨k, rfl⟩ : ∃ m, k = m + 1 := ⟨k - 1, by omega⟩
    have hlt : i < (l.length : Int) := by omega
    simp only [num_Sum.l0]; rw [if_pos hlt, if_pos h0, if_pos hlt, rd_drop l i h0 hlt, in_eq]
    simp only [Option.bind_some]
    generalize hx : rd l i = x
    by_cases hi : inn x = true
    · have hi' := (inn_iff x).1 hi
      have hs' := (inn_iff s).1 hs
      rw [if_pos hi, wrap_small (s + x) (by omega), in_eq]; simp only [Option.bind_some, sumS]
      rw [if_pos hi]
      by_cases hj : inn (s + x) = true
      · rw [if_pos hj, if_pos hj, wrap_small (i + 1) (by omega)]
        exact ih k (s + x) (i + 1) hj (by omega) (by omega) (by omega) (by omega)
      · rw [if_neg hj, if_neg hj]
    · rw [if_neg hi]; simp only [sumS]; rw [if_neg hi]
theorem sum_eq (l : List Int) (hl : l.length ≤ 1152921504606846976) (k : Nat) (hk : l.length < k) : num_Sum.f k l = some (sumS 0 l) := by
  unfold num_Sum.f
  rw [sum_loop l hl l.length k 0 0 (by decide) (by omega) (by omega) (by omega) hk]; rfl

theorem sat_loop (l : List Int) (hl : l.length ≤ 1152921504606846976) (d : Nat) : ∀ (k : Nat) (s i : Int), inn s = true → 0 ≤ i → i ≤ (l.length : Int) → (l.length : Int) - i = d → d < k →
    num_Sat.l0 k s l (l.length : Int) i = some (satS s (l.drop i.toNat)) := by
  induction d with
  | zero =>
    intro k s i hs h0 h1 hd hk
    obtain ⟨k, rfl⟩ : ∃ m, k = m + 1 := ⟨k - 1, by omega⟩
    simp only [num_Sat.l0]; rw [if_neg (by omega), List.drop_of_length_le (by omega)]; rfl
  | succ d ih =>
    intro k s i hs h0 h1 hd hk
    obtain ⟨k, rfl⟩ : ∃ m, k = m + 1 := ⟨k - 1, by omega⟩
    have hlt : i < (l.length : Int) := by omega
    simp only [num_Sat.l0]; rw [if_pos hlt, if_pos h0, if_pos hlt, rd_drop l i h0 hlt, clip_eq]
    simp only [Option.bind_some]
    have h1' := (inn_iff _).1 (clipN_in (rd l i))
    have hs' := (inn_iff s).1 hs
    rw [wrap_small (s + clipN (rd l i)) (by omega), clip_eq]; simp only [Option.bind_some, satS]
    rw [wrap_small (i + 1) (by omega)]
    exact ih k _ (i + 1) (clipN_in _) (by omega) (by omega) (by omega) (by omega)
theorem sat_eq (l : List Int) (hl : l.length ≤ 1152921504606846976) (k : Nat) (hk : l.length < k) : num_Sat.f k l = some (satS 0 l) := by
  unfold num_Sat.f
  rw [sat_loop l hl l.length k 0 0 (by decide) (by omega) (by omega) (by omega) hk]; rfl

theorem sumS_in (l : List Int) : ∀ s, inn s = true → inn (sumS s l).1 = true := by
  induction l with
  | nil => intro s h; exact h
  | cons x r ih =>
    intro s h; simp only [sumS]
    split
    · split
      · rename_i g; exact ih _ g
      · decide
    · decide
theorem sumS_no (l : List Int) : ∀ s, (sumS s l).2 = false → (sumS s l).1 = 0 := by
  induction l with
  | nil => intro s h; simp [sumS] at h
  | cons x r ih =>
    intro s h; simp only [sumS] at h ⊢
    split
    · rename_i g; rw [if_pos g] at h
      split
      · rename_i g'; rw [if_pos g'] at h; exact ih _ h
      · rfl
    · rfl
theorem sumS_append (l m : List Int) : ∀ s, sumS s (l ++ m) = if (sumS s l).2 = true then sumS (sumS s l).1 m else (0, false) := by
  induction l with
  | nil => intro s; simp [sumS]
  | cons x r ih =>
    intro s; simp only [List.cons_append, sumS]
    split
    · split
      · exact ih _
      · rfl
    · rfl
theorem satS_append (l m : List Int) : ∀ s, satS s (l ++ m) = satS (satS s l) m := by
  induction l with
  | nil => intro s; rfl
  | cons x r ih => intro s; simp only [List.cons_append, satS]; exact ih _
theorem satS_in (l : List Int) : ∀ s, inn s = true → inn (satS s l) = true := by
  induction l with
  | nil => intro s h; exact h
  | cons x r ih => intro s h; simp only [satS]; exact ih _ (clipN_in _)
theorem satS_mono (l : List Int) : ∀ s t, s ≤ t → satS s l ≤ satS t l := by
  induction l with
  | nil => intro s t h; exact h
  | cons x r ih => intro s t h; simp only [satS]; exact ih _ _ (clipN_mono _ _ (by omega))
theorem sum_sat (l : List Int) : ∀ s, (sumS s l).2 = true → (sumS s l).1 = satS s l := by
  induction l with
  | nil => intro s _; rfl
  | cons x r ih =>
    intro s h; simp only [sumS, satS] at h ⊢
    by_cases g : inn x = true
    · rw [if_pos g] at h ⊢
      by_cases g' : inn (s + x) = true
      · rw [if_pos g'] at h ⊢; rw [clipN_same x g, clipN_same _ g']; exact ih _ h
      · rw [if_neg g'] at h; simp at h
    · rw [if_neg g] at h; simp at h
theorem satS_set (l : List Int) : ∀ (s : Int) (i : Nat) (v : Int), l.getD i 0 ≤ v → satS s l ≤ satS s (l.set i v) := by
  induction l with
  | nil => intro s i v _; simp [satS]
  | cons x r ih =>
    intro s i v h
    cases i with
    | zero => simp only [List.set_cons_zero, satS]; simp at h; exact satS_mono _ _ _ (clipN_mono _ _ (by have := clipN_mono _ _ h; omega))
    | succ i => simp only [List.set_cons_succ, satS]; exact ih _ _ _ (by simpa using h)
theorem runs : ∃ K, ∀ k, K ≤ k → draylaw1_NumRuns.f k = some true := ⟨10, fun k hk => at_rounds draylaw1_NumRuns.mono hk (by decide +kernel)⟩
theorem runs1 : ∃ k, draylaw1_NumRuns.f k = some true := ⟨10, by decide +kernel⟩
def mulS (a b : Int) : Int × Bool := if (inn a = true ∧ inn b = true) ∧ inn (a * b) = true then (a * b, true) else (0, false)
theorem size_eq (a : Int) (h : inn a = true) : num_size.f a = some (a.natAbs : Int) := by
  have h' := (inn_iff a).1 h
  unfold num_size.f
  by_cases g : a < 0
  · rw [if_pos g, wrap_small _ (by omega)]; congr 1; omega
  · rw [if_neg g]; congr 1; omega
theorem div_bound (x y : Nat) (hy : 0 < y) : ((x : Int) > 1125899906842624 / (y : Int)) ↔ ((x * y : Nat) : Int) > 1125899906842624 := by
  have h := Int.lt_ediv_iff_mul_lt (a := (1125899906842624 : Int)) (b := (x : Int)) (c := (y : Int))
  constructor
  · intro h1
    have h2 := Int.ediv_lt_iff_lt_mul (a := (1125899906842624 : Int)) (b := (x : Int)) (c := (y : Int)) (by omega)
    have := h2.1 h1
    rw [Int.natCast_mul]; exact this
  · intro h1
    have h2 := Int.ediv_lt_iff_lt_mul (a := (1125899906842624 : Int)) (b := (x : Int)) (c := (y : Int)) (by omega)
    apply h2.2; rw [Int.natCast_mul] at h1; exact h1
theorem mul_abs (a b : Int) : (inn (a * b) = true) ↔ ((a.natAbs * b.natAbs : Nat) : Int) ≤ 1125899906842624 := by
  rw [← Int.natAbs_mul, inn_iff]; omega
theorem div_small (y : Nat) : -9223372036854775808 ≤ (1125899906842624 : Int) / (y : Int) ∧ (1125899906842624 : Int) / (y : Int) ≤ 9223372036854775807 := by
  have h1 : 0 ≤ (1125899906842624 : Int) / (y : Int) := Int.ediv_nonneg (by omega) (by omega)
  have h2 : (1125899906842624 : Int) / (y : Int) ≤ 1125899906842624 := Int.ediv_le_self _ (by omega)
  omega
theorem mulS_no_a (a b : Int) (h : ¬ inn a = true) : mulS a b = (0, false) := if_neg (fun x => h x.1.1)
theorem mulS_no_b (a b : Int) (h : ¬ inn b = true) : mulS a b = (0, false) := if_neg (fun x => h x.1.2)
theorem mulS_no (a b : Int) (h : ¬ inn (a * b) = true) : mulS a b = (0, false) := if_neg (fun x => h x.2)
theorem mulS_yes (a b : Int) (ha : inn a = true) (hb : inn b = true) (h : inn (a * b) = true) : mulS a b = (a * b, true) := if_pos ⟨⟨ha, hb⟩, h⟩
theorem mulS_nil (a b : Int) (ha : inn a = true) (hb : inn b = true) (h : a = 0 ∨ b = 0) : mulS a b = (0, true) := by
  have h0 : a * b = 0 := by rcases h with h | h <;> rw [h] <;> simp
  rw [mulS_yes a b ha hb (by rw [h0]; decide), h0]
theorem mul_last (a b : Int) (ha : inn a = true) (hb : inn b = true) (x y : Nat) (hy : 0 < y) (h : x * y = a.natAbs * b.natAbs) :
    (if (y : Int) = 0 then (none : Option (Int × Bool)) else if (x : Int) > wrap64 (Int.tdiv (1125899906842624 : Int) (y : Int)) then some (0, false) else some (wrap64 (a * b), true)) = some (mulS a b) := by
  rw [if_neg (by omega), Int.tdiv_eq_ediv_of_nonneg (by omega), wrap_small _ (div_small y)]
  have hd := div_bound x y hy
  have hm := mul_abs a b
  rw [h] at hd
  by_cases g : (x : Int) > 1125899906842624 / (y : Int)
  · rw [if_pos g, mulS_no]; intro hh; have := hm.1 hh; have := hd.1 g; omega
  · rw [if_neg g]
    have hin : inn (a * b) = true := hm.2 (by
      rcases Int.lt_or_le 1125899906842624 ((a.natAbs * b.natAbs : Nat) : Int) with h | h
      · exact absurd (hd.2 h) g
      · exact h)
    rw [mulS_yes a b ha hb hin, wrap_small _ (by have := (inn_iff _).1 hin; omega)]
theorem mul_eq (a b : Int) (k : Nat) : num_Mul.f (k + 2) a b = some (mulS a b) := by
  unfold num_Mul.f
  rw [in_eq]; simp only [Option.bind_some]
  by_cases ha : inn a = true
  · rw [if_pos ha, in_eq]; simp only [Option.bind_some]
    by_cases hb : inn b = true
    · rw [hb]; simp only [num_Mul.j0, Bool.not_true]
      rw [if_neg (by decide)]
      by_cases h0 : a = 0
      · rw [if_pos h0, mulS_nil a b ha hb (.inl h0)]; rfl
      · rw [if_neg h0]
        by_cases h1 : b = 0
        · rw [mulS_nil a b ha hb (.inr h1), h1]; rfl
        · have hb1 : (b == 0) = false := by simpa using h1
          rw [hb1]; simp only [num_Mul.j1]; rw [if_neg (by decide), size_eq a ha, size_eq b hb]; simp only [Option.bind_some]
          exact mul_last a b ha hb _ _ (by omega) rfl
    · have hb' : inn b = false := by simpa using hb
      rw [hb', mulS_no_b a b hb]; rfl
  · rw [if_neg ha, mulS_no_a a b ha]; rfl
-- SAYS For any two whole numbers Mul answers as the document's own; draylaw1.NumMuls answers true; no condition.
theorem ref_in_eq (a : Int) : drayref1_In.f a = num_In.f a := rfl
theorem ref_mul_eq (a b : Int) (k : Nat) : drayref1_Mul.f (k + 4) a b = some (mulS a b) := by
  unfold drayref1_Mul.f
  rw [ref_in_eq, in_eq]; simp only [Option.bind_some]
  by_cases ha : inn a = true
  · rw [if_pos ha, ref_in_eq, in_eq]; simp only [Option.bind_some]
    by_cases hb : inn b = true
    · rw [hb]; simp only [drayref1_Mul.j0, Bool.not_true]
      rw [if_neg (by decide)]
      by_cases h0 : a = 0
      · rw [if_pos h0, mulS_nil a b ha hb (.inl h0)]; rfl
      · rw [if_neg h0]
        by_cases h1 : b = 0
        · rw [mulS_nil a b ha hb (.inr h1), h1]; rfl
        · have hb1 : (b == 0) = false := by simpa using h1
          rw [hb1]; simp only [drayref1_Mul.j1]; rw [if_neg (by decide)]
          have ha' := (inn_iff _).1 ha
          have hb' := (inn_iff _).1 hb
          have hl := mul_last a b ha hb b.natAbs a.natAbs (by omega) (Nat.mul_comm _ _)
          have key : ∀ x y : Int, x = (a.natAbs : Int) → y = (b.natAbs : Int) → (if x = 0 then (none : Option (Int × Bool)) else if y > wrap64 (Int.tdiv (1125899906842624 : Int) x) then some (0, false) else some (wrap64 (a * b), true)) = some (mulS a b) := by
            intro x y hx hy
            rw [hx, hy]; exact hl
          by_cases na : a < 0
          · rw [if_pos na]; simp only [drayref1_Mul.j2]
            rw [wrap_small (-a) (by omega)]
            by_cases nb : b < 0
            · rw [if_pos nb, wrap_small (-b) (by omega)]; exact key _ _ (by omega) (by omega)
            · rw [if_neg nb]; exact key _ _ (by omega) (by omega)
          · rw [if_neg na]; simp only [drayref1_Mul.j2]
            by_cases nb : b < 0
            · rw [if_pos nb, wrap_small (-b) (by omega)]; exact key _ _ (by omega) (by omega)
            · rw [if_neg nb]; exact key _ _ (by omega) (by omega)
    · have hb' : inn b = false := by simpa using hb
      rw [hb', mulS_no_b a b hb]; rfl
  · rw [if_neg ha, mulS_no_a a b ha]; rfl
theorem NumMuls : draylaw1_NumMuls.Pure := by
  intro a b _ _
  obtain ⟨K, hK⟩ := runs
  refine ⟨K + 4, ?_⟩
  unfold draylaw1_NumMuls.f
  rw [mul_eq a b (K + 2), ref_mul_eq a b K]; simp only [Option.bind_some, beq_self_eq_true, if_true]
  rw [hK (K + 4) (by omega)]; rfl

end Go.Proofs.Ythgjbmmclbpkeaa.Pure
