/- Chapter 20's laws, plain: what a crash leaves. -/
import Derived.Test.YtakcdmmniaipeaaDisk13
set_option linter.unusedVariables false
set_option linter.unusedSimpArgs false
namespace Go.Proofs.Ytakcdmmniaipeaa
open Go.RowKit B
structure Synced (D : DS) : Prop where
  calm : Calm 1048576 D
  wait : D.wait = []
  safe : D.safe = D.files
theorem synced_sync {D : DS} (h : Calm 1048576 D) : Synced (syncD D).2 := by
  obtain ⟨h1, _, _⟩ := calm_sync h
  refine ⟨h1, ?_, ?_⟩ <;> (unfold syncD; rw [count_calm h.off h.armed, if_pos rfl])
theorem read_calm {D : DS} (h1 : D.off = false) {f : Int} (hf : 0 ≤ f ∧ f < 64) : readF D f = fileAt D.files f := by
  unfold readF
  rw [h1, if_neg (by decide), if_pos (by simp [inF]; omega)]
theorem crash_nil {D : DS} (h : D.wait = []) (keep torn : Int) : (crashD D keep torn).files = D.safe := by unfold crashD; rw [h]; rfl
theorem crash_off (D : DS) (keep torn : Int) : (crashD D keep torn).off = false ∧ (crashD D keep torn).wait = [] ∧ (crashD D keep torn).quota = D.quota := ⟨rfl, rfl, rfl⟩
theorem fileAt_set_ne {F : List (List Int)} {n : Nat} {f : Int} {l : List Int} (h : f ≠ n) (hf : 0 ≤ f) : fileAt (F.set n l) f = fileAt F f := by
  unfold fileAt
  rw [List.getElem?_set_ne (by omega)]
/-! ### a file that nobody touched -/
structure Same (f : Int) (was : List Int) (D : DS) : Prop where
  files : fileAt D.files f = was
  safe : fileAt D.safe f = was
  wait : ∀ c ∈ D.wait, f ≠ (c.file : Int)
theorem count_same {f : Int} {was : List Int} {D : DS} (h : Same f was D) : Same f was (countD D).2 := by
  unfold countD
  split
  · exact h
  · split
    · exact ⟨h.files, h.safe, h.wait⟩
    · exact h
theorem count_wait (D : DS) : (countD D).2.wait = D.wait := by
  unfold countD
  split
  · rfl
  · split <;> rfl
theorem same_write {f : Int} {was : List Int} {D : DS} (h : Same f was D) (hf : 0 ≤ f) {n z : Int} {p : List Int} (hn : n ≠ f) : Same f was (writeD D n z p).2 ∧ (writeD D n z p).2.wait.length ≤ D.wait.length + 1 := by
  have hc := count_same h
  have hw := count_wait D
  unfold writeD
  split
  · split
    · rename_i ha
      simp only [atOk, Bool.and_eq_true, decide_eq_true_eq] at ha
      obtain ⟨h0, h1⟩ := inF_true ha.1
      split
      · exact ⟨hc, by rw [hw]; omega⟩
      · refine ⟨⟨?_, hc.safe, fun c hcm => ?_⟩, by simp [hw]⟩
        · exact (fileAt_set_ne (by omega) hf).trans hc.files
        · rcases List.mem_append.1 hcm with hcm | hcm
          · exact hc.wait c hcm
          · rw [List.mem_singleton.1 hcm]
            show f ≠ ((n.toNat : Nat) : Int)
            omega
    · exact ⟨hc, by rw [hw]; omega⟩
  · exact ⟨hc, by rw [hw]; omega⟩
theorem same_cut {f : Int} {was : List Int} {D : DS} (h : Same f was D) (hf : 0 ≤ f) {n z : Int} (hn : n ≠ f) : Same f was (cutD D n z).2 ∧ (cutD D n z).2.wait.length ≤ D.wait.length + 1 := by
  have hc := count_same h
  have hw := count_wait D
  unfold cutD
  split
  · split
    · rename_i ha
      simp only [cutOk, Bool.and_eq_true, decide_eq_true_eq] at ha
      obtain ⟨h0, h1⟩ := inF_true ha.1
      refine ⟨⟨?_, hc.safe, fun c hcm => ?_⟩, by simp [hw]⟩
      · exact (fileAt_set_ne (by omega) hf).trans hc.files
      · rcases List.mem_append.1 hcm with hcm | hcm
        · exact hc.wait c hcm
        · rw [List.mem_singleton.1 hcm]
          show f ≠ ((n.toNat : Nat) : Int)
          omega
    · exact ⟨hc, by rw [hw]; omega⟩
  · exact ⟨hc, by rw [hw]; omega⟩
theorem same_sync {f : Int} {was : List Int} {D : DS} (h : Same f was D) : Same f was (syncD D).2 ∧ (syncD D).2.wait.length ≤ D.wait.length + 1 := by
  have hc := count_same h
  have hw := count_wait D
  unfold syncD
  split
  · exact ⟨⟨hc.files, hc.files, fun c hcm => by simp at hcm⟩, by simp⟩
  · exact ⟨hc, by rw [hw]; omega⟩
theorem same_arm {f : Int} {was : List Int} {D : DS} (h : Same f was D) (n : Int) : Same f was (armD D n) ∧ (armD D n).wait = D.wait := by
  unfold armD
  split
  · exact ⟨h, rfl⟩
  · exact ⟨⟨h.files, h.safe, h.wait⟩, rfl⟩
theorem crN_same {keep torn last f : Int} (hf : 0 ≤ f) {ch : List Chg} (hw : ∀ c ∈ ch, f ≠ (c.file : Int)) (F : List (List Int)) : ∀ k, fileAt (crN keep torn last ch F k) f = fileAt F f
  | 0 => rfl
  | k + 1 => by
    have ih := crN_same hf hw F (keep := keep) (torn := torn) (last := last) k
    simp only [crN]
    split
    · rename_i c hc
      have hcf := hw c (List.mem_of_getElem? hc)
      unfold crStep
      split
      · split
        · split
          · rw [fileAt_set_ne hcf hf, ih]
          · exact ih
        · rw [fileAt_set_ne hcf hf, ih]
      · exact ih
    · exact ih
theorem same_crash {f : Int} {was : List Int} {D : DS} (h : Same f was D) (hf : 0 ≤ f ∧ f < 64) (keep torn : Int) : readF (crashD D keep torn) f = was := by
  rw [read_calm rfl hf]
  show fileAt (crN keep torn _ D.wait D.safe _) f = was
  rw [crN_same hf.1 h.wait, h.safe]
/-! ### what all changes come to -/
theorem bit_all (k : Nat) : bitK (-1) k = true := by
  unfold bitK
  have h : (-1 : Int) / 2 ^ (k % 60) = -1 := by
    have hp : (0 : Int) < 2 ^ (k % 60) := Int.pow_pos (by omega)
    exact Int.ediv_eq_neg_one_of_neg_of_le (by omega) (by omega)
  rw [h]
  decide
theorem bit_none (k : Nat) : bitK 0 k = false := by simp [bitK]
theorem torn_none (last : Int) (k : Nat) (p : List Int) : tornP (-1) last k p = p := by
  unfold tornP
  rw [if_neg (fun h => by omega)]
theorem crN_zero (torn last : Int) (ch : List Chg) (F : List (List Int)) : ∀ k, crN 0 torn last ch F k = F
  | 0 => rfl
  | k + 1 => by
    have ih := crN_zero torn last ch F k
    simp only [crN]
    split
    · unfold crStep
      rw [bit_none, if_neg (by decide)]
      exact ih
    · exact ih
theorem crN_last (last last' : Int) (ch : List Chg) (F : List (List Int)) : ∀ k, crN (-1) (-1) last ch F k = crN (-1) (-1) last' ch F k
  | 0 => rfl
  | k + 1 => by
    have ih := crN_last last last' ch F k
    simp only [crN, crStep, torn_none, ih]
theorem crN_app (keep torn last : Int) (ch : List Chg) (c : Chg) (F : List (List Int)) : ∀ k, k ≤ ch.length → crN keep torn last (ch ++ [c]) F k = crN keep torn last ch F k
  | 0, _ => rfl
  | k + 1, h => by
    have ih := crN_app keep torn last ch c F k (by omega)
    simp only [crN, ih]
    rw [List.getElem?_append_left (by omega)]
def rp (ch : List Chg) (F : List (List Int)) : List (List Int) := crN (-1) (-1) 0 ch F ch.length
theorem rp_app (ch : List Chg) (c : Chg) (F : List (List Int)) : rp (ch ++ [c]) F = if c.cut = true then (if c.at_ ≤ (fileAt (rp ch F) c.file).length then (rp ch F).set c.file ((fileAt (rp ch F) c.file).take c.at_) else rp ch F) else (rp ch F).set c.file (wrF (fileAt (rp ch F) c.file) c.at_ c.p) := by
  unfold rp
  rw [List.length_append, List.length_singleton, crN_succ (q := c) (by rw [List.getElem?_append_right (Nat.le_refl _), Nat.sub_self]; rfl), crN_app _ _ _ _ _ _ _ (Nat.le_refl _)]
  unfold crStep
  rw [if_pos (bit_all _), torn_none]
structure Kept (F : List (List Int)) (D : DS) : Prop where
  calm : Calm 1048576 D
  safe : D.safe = F
  files : D.files = rp D.wait F
theorem kept_write {F : List (List Int)} {D : DS} (h : Kept F D) (f z : Int) (p : List Int) : Kept F (writeD D f z p).2 ∧ (writeD D f z p).2.wait.length ≤ D.wait.length + 1 := by
  obtain ⟨h1, _, _, h4⟩ := calm_write h.calm f z p
  refine ⟨⟨h1, ?_, ?_⟩, h4⟩
  · unfold writeD
    rw [count_calm h.calm.off h.calm.armed, if_pos rfl]
    split
    · split
      · exact h.safe
      · exact h.safe
    · exact h.safe
  · unfold writeD
    rw [count_calm h.calm.off h.calm.armed, if_pos rfl]
    split
    · rename_i ha
      simp only [atOk, Bool.and_eq_true, decide_eq_true_eq] at ha
      obtain ⟨h0, h1⟩ := inF_true ha.1
      split
      · exact h.files
      · show D.files.set _ _ = rp (D.wait ++ [_]) F
        rw [rp_app, if_neg (by simp), ← h.files]
        simp only
        rw [show ((f.toNat : Nat) : Int) = f by omega]
    · exact h.files
theorem kept_cut {F : List (List Int)} {D : DS} (h : Kept F D) (f z : Int) : Kept F (cutD D f z).2 ∧ (cutD D f z).2.wait.length ≤ D.wait.length + 1 := by
  obtain ⟨h1, _, _, h4⟩ := calm_cut h.calm f z
  refine ⟨⟨h1, ?_, ?_⟩, h4⟩
  · unfold cutD
    rw [count_calm h.calm.off h.calm.armed, if_pos rfl]
    split
    · exact h.safe
    · exact h.safe
  · unfold cutD
    rw [count_calm h.calm.off h.calm.armed, if_pos rfl]
    split
    · rename_i ha
      simp only [cutOk, Bool.and_eq_true, decide_eq_true_eq] at ha
      obtain ⟨h0, h1⟩ := inF_true ha.1
      show D.files.set _ _ = rp (D.wait ++ [_]) F
      rw [rp_app, if_pos rfl, ← h.files]
      simp only
      rw [show ((f.toNat : Nat) : Int) = f by omega, if_pos (by omega)]
    · exact h.files
theorem kept_all {F : List (List Int)} {D : DS} (h : Kept F D) : (crashD D (-1) (-1)).files = D.files := by
  show crN (-1) (-1) _ D.wait D.safe _ = D.files
  rw [crN_last _ 0, h.safe, h.files]
  rfl
theorem kept_none {F : List (List Int)} {D : DS} (h : Kept F D) (torn : Int) : (crashD D 0 torn).files = F := by
  show crN 0 torn _ D.wait D.safe _ = F
  rw [crN_zero, h.safe]
theorem kept_of {D : DS} (h : Synced D) : Kept D.files D := ⟨h.calm, h.safe, by rw [h.wait]; rfl⟩
theorem same_of {D : DS} (h : Synced D) (f : Int) : Same f (fileAt D.files f) D := ⟨rfl, by rw [h.safe], fun c hc => by rw [h.wait] at hc; simp at hc⟩
end Go.Proofs.Ytakcdmmniaipeaa
