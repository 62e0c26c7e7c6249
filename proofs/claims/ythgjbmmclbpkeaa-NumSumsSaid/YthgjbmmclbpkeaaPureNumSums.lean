/- For any list of whole numbers the code's Sum and Sat answer as the reference's, and the slice behind the list is left alone; draylaw1.NumSums answers true; no condition. -/
import Derived.Test.YthgjbmmclbpkeaaPNumSumsx3
import Derived.Test.YthgjbmmclbpkeaaWWords
namespace Go.Proofs.Ythgjbmmclbpkeaa.Pure
open Go.RowKit Go.Proofs.Ythgjbmmclbpkeaa.PNumSums Go.Proofs.YthgjbmmclbpkeaaW.PrintWords Go.Proofs.YthgjbmmclbpkeaaW.PrintLast
set_option linter.unusedVariables false
set_option linter.unusedSimpArgs false

def inn (a : Int) : Bool := decide (-1125899906842624 ≤ a ∧ a ≤ 1125899906842624)
theorem inn_iff (a : Int) : inn a = true ↔ (-1125899906842624 ≤ a ∧ a ≤ 1125899906842624) := by unfold inn; exact decide_eq_true_iff
theorem inn_no (a : Int) : inn a = false ↔ ¬ (-1125899906842624 ≤ a ∧ a ≤ 1125899906842624) := by unfold inn; exact decide_eq_false_iff_not
def sumS : Int → List Int → Int × Bool
  | s, [] => (s, true)
  | s, x :: r => if inn x = true then (if inn (s + x) = true then sumS (s + x) r else (0, false)) else (0, false)
def clipN (a : Int) : Int := if a < -1125899906842624 then -1125899906842624 else if a > 1125899906842624 then 1125899906842624 else a
def satS : Int → List Int → Int
  | s, [] => s
  | s, x :: r => satS (clipN (s + clipN x)) r
theorem clipN_in (a : Int) : inn (clipN a) = true := by
  rw [inn_iff]; unfold clipN; split
  · omega
  · split <;> omega
theorem clipN_same (a : Int) (h : inn a = true) : clipN a = a := by
  rw [inn_iff] at h; unfold clipN; rw [if_neg (by omega), if_neg (by omega)]
theorem clipN_mono (a b : Int) (h : a ≤ b) : clipN a ≤ clipN b := by
  unfold clipN; repeat' split
  all_goals omega
theorem wrap_small (a : Int) (h : -9223372036854775808 ≤ a ∧ a ≤ 9223372036854775807) : wrap64 a = a := by unfold wrap64; omega

theorem rd_drop (l : List Int) (i : Int) (h0 : 0 ≤ i) (h1 : i < (l.length : Int)) : l.drop i.toNat = rd l i :: l.drop (i + 1).toNat := by
  have hi : i.toNat < l.length := by omega
  rw [List.drop_eq_getElem_cons hi, show (i + 1).toNat = i.toNat + 1 by omega]
  congr 1
  unfold rd; rw [List.getD_eq_getElem?_getD, List.getElem?_eq_getElem hi]; rfl

theorem in_eq (a : Int) : num_In.f a = some (inn a) := by
  unfold num_In.f inn
  by_cases h : a ≥ -1125899906842624
  · rw [if_pos h]; by_cases g : a ≤ 1125899906842624
    · rw [decide_eq_true g, decide_eq_true ⟨h, g⟩]
    · rw [decide_eq_false g, decide_eq_false (fun x => g x.2)]
  · rw [if_neg h, decide_eq_false (fun x => h x.1)]

theorem clip_eq (a : Int) : num_Clip.f a (-1125899906842624) 1125899906842624 = some (clipN a) := by
  unfold num_Clip.f clipN
  by_cases h : a < -1125899906842624
  · rw [if_pos h, if_pos h]
  · rw [if_neg h, if_neg h]
    by_cases g : a > 1125899906842624
    · rw [if_pos g, if_pos g]
    · rw [if_neg g, if_neg g]

theorem sum_loop (l : List Int) (hl : l.length ≤ 1152921504606846976) (d : Nat) : ∀ (k : Nat) (s i : Int), inn s = true → 0 ≤ i → i ≤ (l.length : Int) → (l.length : Int) - i = d → d < k →
    num_Sum.l0 k s l (l.length : Int) i = some (sumS s (l.drop i.toNat)) := by
  induction d with
  | zero =>
    intro k s i hs h0 h1 hd hk
    obtain ⟨k, rfl⟩ : ∃ m, k = m + 1 := ⟨k - 1, by omega⟩
    simp only [num_Sum.l0]; rw [if_neg (by omega), List.drop_of_length_le (by omega)]; rfl
  | succ d ih =>
    intro k s i hs h0 h1 hd hk
    obtain ⟨k, rfl⟩ : ∃ m, k = m + 1 := ⟨k - 1, by omega⟩
    have hlt : i < (l.length : Int) := by omega
    simp only [num_Sum.l0]; rw [if_pos hlt, if_pos h0, if_pos hlt, rd_drop l i h0 hlt, in_eq]
    simp only [Option.bind_some]
    generalize hx : rd l i = x
    by_cases hi : inn x = true
    · have hi' := (inn_iff x).1 hi
      have hs' := (inn_iff s).1 hs
      rw [if_pos hi, wrap_small (s + x) (by omega), in_eq]; simp only [Option.bind_some, sumS]
      rw [if_pos hi]
      by_cases hj : inn (s + x) = true
      · rw [if_pos hj, if_pos hj, wrap_small (i + 1) (by omega)]
        exact ih k (s + x) (i + 1) hj (by omega) (by omega) (by omega) (by omega)
      · rw [if_neg hj, if_neg hj]
    · rw [if_neg hi]; simp only [sumS]; rw [if_neg hi]
theorem sum_eq (l : List Int) (hl : l.length ≤ 1152921504606846976) (k : Nat) (hk : l.length < k) : num_Sum.f k l = some (sumS 0 l) := by
  unfold num_Sum.f
  rw [sum_loop l hl l.length k 0 0 (by decide) (by omega) (by omega) (by omega) hk]; rfl

theorem sat_loop (l : List Int) (hl : l.length ≤ 1152921504606846976) (d : Nat) : ∀ (k : Nat) (s i : Int), inn s = true → 0 ≤ i → i ≤ (l.length : Int) → (l.length : Int) - i = d → d < k →
    num_Sat.l0 k s l (l.length : Int) i = some (satS s (l.drop i.toNat)) := by
  induction d with
  | zero =>
    intro k s i hs h0 h1 hd hk
    obtain ⟨k, rfl⟩ : ∃ m, k = m + 1 := ⟨k - 1, by omega⟩
    simp only [num_Sat.l0]; rw [if_neg (by omega), List.drop_of_length_le (by omega)]; rfl
  | succ d ih =>
    intro k s i hs h0 h1 hd hk
    obtain ⟨k, rfl⟩ : ∃ m, k = m + 1 := ⟨k - 1, by omega⟩
    have hlt : i < (l.length : Int) := by omega
    simp only [num_Sat.l0]; rw [if_pos hlt, if_pos h0, if_pos hlt, rd_drop l i h0 hlt, clip_eq]
    simp only [Option.bind_some]
    have h1' := (inn_iff _).1 (clipN_in (rd l i))
    have hs' := (inn_iff s).1 hs
    rw [wrap_small (s + clipN (rd l i)) (by omega), clip_eq]; simp only [Option.bind_some, satS]
    rw [wrap_small (i + 1) (by omega)]
    exact ih k _ (i + 1) (clipN_in _) (by omega) (by omega) (by omega) (by omega)
theorem sat_eq (l : List Int) (hl : l.length ≤ 1152921504606846976) (k : Nat) (hk : l.length < k) : num_Sat.f k l = some (satS 0 l) := by
  unfold num_Sat.f
  rw [sat_loop l hl l.length k 0 0 (by decide) (by omega) (by omega) (by omega) hk]; rfl

theorem sumS_in (l : List Int) : ∀ s, inn s = true → inn (sumS s l).1 = true := by
  induction l with
  | nil => intro s h; exact h
  | cons x r ih =>
    intro s h; simp only [sumS]
    split
    · split
      · rename_i g; exact ih _ g
      · decide
    · decide
theorem sumS_no (l : List Int) : ∀ s, (sumS s l).2 = false → (sumS s l).1 = 0 := by
  induction l with
  | nil => intro s h; simp [sumS] at h
  | cons x r ih =>
    intro s h; simp only [sumS] at h ⊢
    split
    · rename_i g; rw [if_pos g] at h
      split
      · rename_i g'; rw [if_pos g'] at h; exact ih _ h
      · rfl
    · rfl
theorem sumS_append (l m : List Int) : ∀ s, sumS s (l ++ m) = if (sumS s l).2 = true then sumS (sumS s l).1 m else (0, false) := by
  induction l with
  | nil => intro s; simp [sumS]
  | cons x r ih =>
    intro s; simp only [List.cons_append, sumS]
    split
    · split
      · exact ih _
      · rfl
    · rfl
theorem satS_append (l m : List Int) : ∀ s, satS s (l ++ m) = satS (satS s l) m := by
  induction l with
  | nil => intro s; rfl
  | cons x r ih => intro s; simp only [List.cons_append, satS]; exact ih _
theorem satS_in (l : List Int) : ∀ s, inn s = true → inn (satS s l) = true := by
  induction l with
  | nil => intro s h; exact h
  | cons x r ih => intro s h; simp only [satS]; exact ih _ (clipN_in _)
theorem satS_mono (l : List Int) : ∀ s t, s ≤ t → satS s l ≤ satS t l := by
  induction l with
  | nil => intro s t h; exact h
  | cons x r ih => intro s t h; simp only [satS]; exact ih _ _ (clipN_mono _ _ (by omega))
theorem sum_sat (l : List Int) : ∀ s, (sumS s l).2 = true → (sumS s l).1 = satS s l := by
  induction l with
  | nil => intro s _; rfl
  | cons x r ih =>
    intro s h; simp only [sumS, satS] at h ⊢
    by_cases g : inn x = true
    · rw [if_pos g] at h ⊢
      by_cases g' : inn (s + x) = true
      · rw [if_pos g'] at h ⊢; rw [clipN_same x g, clipN_same _ g']; exact ih _ h
      · rw [if_neg g'] at h; simp at h
    · rw [if_neg g] at h; simp at h
theorem satS_set (l : List Int) : ∀ (s : Int) (i : Nat) (v : Int), l.getD i 0 ≤ v → satS s l ≤ satS s (l.set i v) := by
  induction l with
  | nil => intro s i v _; simp [satS]
  | cons x r ih =>
    intro s i v h
    cases i with
    | zero => simp only [List.set_cons_zero, satS]; simp at h; exact satS_mono _ _ _ (clipN_mono _ _ (by have := clipN_mono _ _ h; omega))
    | succ i => simp only [List.set_cons_succ, satS]; exact ih _ _ _ (by simpa using h)
theorem runs : ∃ K, ∀ k, K ≤ k → draylaw1_NumRuns.f k = some true := ⟨10, fun k hk => at_rounds draylaw1_NumRuns.mono hk (by decide +kernel)⟩
theorem runs1 : ∃ k, draylaw1_NumRuns.f k = some true := ⟨10, by decide +kernel⟩
theorem same_loop (l m : List Int) (hl : l.length ≤ 1152921504606846976) (he : l.length = m.length) (d : Nat) : ∀ (k : Nat) (i : Int), 0 ≤ i → i ≤ (l.length : Int) → (l.length : Int) - i = d → d < k →
    draybook_Same_int.l0 k l m i = some (decide (l.drop i.toNat = m.drop i.toNat)) := by
  induction d with
  | zero =>
    intro k i h0 h1 hd hk
    obtain ⟨k, rfl⟩ : ∃ q, k = q + 1 := ⟨k - 1, by omega⟩
    simp only [draybook_Same_int.l0]; rw [if_neg (by omega), List.drop_of_length_le (by omega), List.drop_of_length_le (by omega)]; rfl
  | succ d ih =>
    intro k i h0 h1 hd hk
    obtain ⟨k, rfl⟩ : ∃ q, k = q + 1 := ⟨k - 1, by omega⟩
    have hlt : i < (l.length : Int) := by omega
    simp only [draybook_Same_int.l0]; rw [if_pos hlt, if_pos h0, if_pos (by omega), rd_drop l i h0 hlt, rd_drop m i h0 (by omega)]
    by_cases g : rd l i = rd m i
    · rw [if_pos g, wrap_small (i + 1) (by omega), ih k (i + 1) (by omega) (by omega) (by omega) (by omega), g]
      congr 1
      simp
    · rw [if_neg g]; congr 1; symm; rw [decide_eq_false_iff_not]; intro h; injection h with h; exact g h
theorem same_eq (l m : List Int) (hl : l.length ≤ 1152921504606846976) (k : Nat) (hk : l.length < k) : draybook_Same_int.f k l m = some (decide (l = m)) := by
  unfold draybook_Same_int.f
  by_cases he : l.length = m.length
  · rw [if_pos (by omega), same_loop l m hl he l.length k 0 (by omega) (by omega) (by omega) hk]; rfl
  · rw [if_neg (by omega)]; congr 1; symm; rw [decide_eq_false_iff_not]; intro h; exact he (by rw [h])
theorem rd_back (l : List Int) (n : Nat) (v : Int) (i : Int) (h0 : (l.length : Int) ≤ i) (h1 : i < (l.length : Int) + n) : rd (l ++ List.replicate n v) i = v := by
  unfold rd
  rw [List.getD_eq_getElem?_getD, List.getElem?_append_right (by omega), List.getElem?_replicate, if_pos (by omega)]; rfl
theorem intact_loop (l : List Int) (n : Nat) (v : Int) (hl : l.length + n ≤ 1152921504606846976) (d : Nat) : ∀ (k : Nat) (i : Int), (l.length : Int) ≤ i → i ≤ (l.length : Int) + n → (l.length : Int) + n - i = d → d < k →
    draybook_Intact_int.l0 k (l ++ List.replicate n v) v i = some true := by
  induction d with
  | zero =>
    intro k i h0 h1 hd hk
    obtain ⟨k, rfl⟩ : ∃ q, k = q + 1 := ⟨k - 1, by omega⟩
    simp only [draybook_Intact_int.l0]; rw [if_neg (by rw [List.length_append, List.length_replicate]; omega)]
  | succ d ih =>
    intro k i h0 h1 hd hk
    obtain ⟨k, rfl⟩ : ∃ q, k = q + 1 := ⟨k - 1, by omega⟩
    simp only [draybook_Intact_int.l0]
    rw [if_pos (by rw [List.length_append, List.length_replicate]; omega), if_pos (by omega), rd_back l n v i h0 (by omega), if_pos rfl, wrap_small (i + 1) (by omega)]
    exact ih k (i + 1) (by omega) (by omega) (by omega) (by omega)
theorem intact_eq (l : List Int) (v : Int) (hl : l.length ≤ 1152921504606846000) (k : Nat) (hk : l.length + 81 < k) : draybook_Intact_int.f k (l ++ List.replicate 80 v) l v = some true := by
  obtain ⟨k, rfl⟩ : ∃ q, k = q + 1 := ⟨k - 1, by omega⟩
  unfold draybook_Intact_int.f
  have hn : (l ++ List.replicate 80 v).length = l.length + 80 := by rw [List.length_append, List.length_replicate]
  rw [wrap_small _ (by omega), if_pos (by omega), if_pos (by omega), if_pos (by omega)]
  rw [show ((l.length : Int) : Int).toNat = l.length by omega, List.take_left]
  rw [same_eq l l (by omega) (k + 1) (by omega), decide_eq_true rfl]
  simp only [Option.bind_some, Bool.not_true]
  simp only [draybook_Intact_int.j0]
  rw [if_neg (by decide)]
  exact intact_loop l 80 v (by omega) 80 k (l.length : Int) (by omega) (by omega) (by omega) (by omega)
-- SAYS For any list of whole numbers the code's Sum and Sat answer as the reference's, and the slice behind the list is left alone; draylaw1.NumSums answers true; no condition.
theorem ref_in_eq (a : Int) : drayref1_In.f a = num_In.f a := rfl
theorem ref_clip_eq (a b c : Int) : drayref1_Clip.f a b c = num_Clip.f a b c := rfl
theorem ref_sum_loop (l : List Int) (hl : l.length ≤ 1152921504606846976) (d : Nat) : ∀ (k : Nat) (s i : Int), inn s = true → 0 ≤ i → i ≤ (l.length : Int) → (l.length : Int) - i = d → d < k →
    drayref1_Sum.l0 k l s i = some (sumS s (l.drop i.toNat)) := by
  induction d with
  | zero =>
    intro k s i hs h0 h1 hd hk
    obtain ⟨k, rfl⟩ : ∃ m, k = m + 1 := ⟨k - 1, by omega⟩
    simp only [drayref1_Sum.l0]; rw [if_neg (by omega), List.drop_of_length_le (by omega)]; rfl
  | succ d ih =>
    intro k s i hs h0 h1 hd hk
    obtain ⟨k, rfl⟩ : ∃ m, k = m + 1 := ⟨k - 1, by omega⟩
    have hlt : i < (l.length : Int) := by omega
    simp only [drayref1_Sum.l0]; rw [if_pos hlt, if_pos h0, rd_drop l i h0 hlt, ref_in_eq, in_eq]
    simp only [Option.bind_some]
    generalize hx : rd l i = x
    by_cases hi : inn x = true
    · have hi' := (inn_iff x).1 hi
      have hs' := (inn_iff s).1 hs
      rw [if_pos hi, wrap_small (s + x) (by omega), ref_in_eq, in_eq]; simp only [Option.bind_some, sumS]
      rw [if_pos hi]
      by_cases hj : inn (s + x) = true
      · rw [if_pos hj, if_pos hj, wrap_small (i + 1) (by omega)]
        exact ih k (s + x) (i + 1) hj (by omega) (by omega) (by omega) (by omega)
      · rw [if_neg hj, if_neg hj]
    · rw [if_neg hi]; simp only [sumS]; rw [if_neg hi]
theorem ref_sum_eq (l : List Int) (hl : l.length ≤ 1152921504606846976) (k : Nat) (hk : l.length < k) : drayref1_Sum.f k l = some (sumS 0 l) := by
  unfold drayref1_Sum.f
  rw [ref_sum_loop l hl l.length k 0 0 (by decide) (by omega) (by omega) (by omega) hk]; rfl
theorem ref_sat_loop (l : List Int) (hl : l.length ≤ 1152921504606846976) (d : Nat) : ∀ (k : Nat) (s i : Int), inn s = true → 0 ≤ i → i ≤ (l.length : Int) → (l.length : Int) - i = d → d < k →
    drayref1_Sat.l0 k l s i = some (satS s (l.drop i.toNat)) := by
  induction d with
  | zero =>
    intro k s i hs h0 h1 hd hk
    obtain ⟨k, rfl⟩ : ∃ m, k = m + 1 := ⟨k - 1, by omega⟩
    simp only [drayref1_Sat.l0]; rw [if_neg (by omega), List.drop_of_length_le (by omega)]; rfl
  | succ d ih =>
    intro k s i hs h0 h1 hd hk
    obtain ⟨k, rfl⟩ : ∃ m, k = m + 1 := ⟨k - 1, by omega⟩
    have hlt : i < (l.length : Int) := by omega
    simp only [drayref1_Sat.l0]; rw [if_pos hlt, if_pos h0, rd_drop l i h0 hlt, ref_clip_eq, clip_eq]
    simp only [Option.bind_some]
    have h1' := (inn_iff _).1 (clipN_in (rd l i))
    have hs' := (inn_iff s).1 hs
    rw [wrap_small (s + clipN (rd l i)) (by omega), ref_clip_eq, clip_eq]; simp only [Option.bind_some, satS]
    rw [wrap_small (i + 1) (by omega)]
    exact ih k _ (i + 1) (clipN_in _) (by omega) (by omega) (by omega) (by omega)
theorem ref_sat_eq (l : List Int) (hl : l.length ≤ 1152921504606846976) (k : Nat) (hk : l.length < k) : drayref1_Sat.f k l = some (satS 0 l) := by
  unfold drayref1_Sat.f
  rw [ref_sat_loop l hl l.length k 0 0 (by decide) (by omega) (by omega) (by omega) hk]; rfl
theorem NumSums (l : List Int) (hm : l.length * 8 ≤ 140737488351232) (hl : ∀ x ∈ l, (Lit.int .i64 x).wf = true) : ∃ k, draylaw1_NumSums.f k l = some true := by
  have hlen : l.length ≤ 1152921504606846000 := by omega
  obtain ⟨K, hK⟩ := runs
  refine ⟨K + l.length + 90, ?_⟩
  have hr := hK (K + l.length + 90) (by omega)
  unfold draylaw1_NumSums.f draybook_Roomy_int.f
  rw [if_pos (by omega)]
  simp only [Option.bind_some]
  have hn : (l ++ List.replicate 80 (-77 : Int)).length = l.length + 80 := by rw [List.length_append, List.length_replicate]
  rw [if_pos (by omega), if_pos (by omega)]
  rw [show ((l.length : Int) : Int).toNat = l.length by omega, List.take_left]
  rw [sum_eq l (by omega) _ (by omega), ref_sum_eq l (by omega) _ (by omega), sat_eq l (by omega) _ (by omega), ref_sat_eq l (by omega) _ (by omega), intact_eq l (-77) (by omega) _ (by omega), hr]
  simp only [Option.bind_some, beq_self_eq_true, if_true]

end Go.Proofs.Ythgjbmmclbpkeaa.Pure
