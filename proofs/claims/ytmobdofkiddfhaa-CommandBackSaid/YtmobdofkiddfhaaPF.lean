/- Chapter 15 in plain Lean: a row of numbers and flags, written and read. No program in sight. -/
import Derived.Test.YtmobdofkiddfhaaPure3
set_option linter.unusedVariables false
set_option linter.unusedSimpArgs false
namespace Go.Proofs.Ytmobdofkiddfhaa.B
open Go Go.RowKit
inductive It where
  | n | f
  deriving DecidableEq
def rdI (l : List Int) (i : It) (s : RS) : Int × RS := match i with
  | .n => NumR l s
  | .f => (if (FlagR l s).1 = true then 1 else 0, (FlagR l s).2)
def encIt (i : It) (v : Int) : List Int := match i with
  | .n => enc v
  | .f => [if v = 1 then 1 else 0]
def okI (i : It) (v : Int) : Prop := match i with
  | .n => I64 v
  | .f => v = 0 ∨ v = 1
def rdF (l : List Int) : List It → RS → List Int × RS
  | [], s => ([], s)
  | i :: r, s => ((rdI l i s).1 :: (rdF l r (rdI l i s).2).1, (rdF l r (rdI l i s).2).2)
def encF : List It → List Int → List Int
  | i :: r, v :: vs => encIt i v ++ encF r vs
  | _, _ => []
def okF : List It → List Int → Prop
  | [], [] => True
  | i :: r, v :: vs => okI i v ∧ okF r vs
  | _, _ => False
theorem NumR_bad {l : List Int} {s : RS} (h : ¬ s.fe = 0) : NumR l s = (0, s) := by unfold NumR; rw [if_neg h]
theorem NumR_ok {l : List Int} {s : RS} (h : s.fe = 0) : NumR l s = numR l s.pos s := by unfold NumR; rw [if_pos h]
theorem FlagR_bad' {l : List Int} {s : RS} (hg : ¬ s.fe = 0) : FlagR l s = (false, s) := by unfold FlagR; rw [if_neg hg]
theorem rdI_bad {l : List Int} {i : It} {s : RS} (h : ¬ s.fe = 0) : rdI l i s = (0, s) := by
  cases i
  · exact NumR_bad h
  · simp [rdI, FlagR_bad' h]
theorem rdF_bad {l : List Int} : ∀ (fm : List It) {s : RS} (h : ¬ s.fe = 0), (rdF l fm s).2 = s
  | [], s, h => rfl
  | i :: r, s, h => by simp only [rdF, rdI_bad h]; exact rdF_bad r h
theorem rdF_app (l : List Int) : ∀ (a b : List It) (s : RS), rdF l (a ++ b) s = ((rdF l a s).1 ++ (rdF l b (rdF l a s).2).1, (rdF l b (rdF l a s).2).2)
  | [], b, s => rfl
  | i :: r, b, s => by simp only [List.cons_append, rdF, rdF_app l r b]
theorem encIt_pos (i : It) (v : Int) : 1 ≤ (encIt i v).length := by
  cases i
  · exact (enc_length v).1
  · simp [encIt]
theorem encIt_len (i : It) (v : Int) : (encIt i v).length ≤ 10 := by
  cases i
  · exact (enc_length v).2
  · simp [encIt]
theorem encF_len : ∀ (fm : List It) (vs : List Int), (encF fm vs).length ≤ 10 * fm.length
  | [], vs => by simp [encF]
  | i :: r, [] => by simp [encF]
  | i :: r, v :: vs => by
    have h1 := encF_len r vs
    have h2 := encIt_len i v
    simp only [encF, List.length_append, List.length_cons]
    omega
theorem encF_ge : ∀ (fm : List It) (vs : List Int), vs.length = fm.length → fm.length ≤ (encF fm vs).length
  | [], vs, _ => by simp
  | i :: r, [], h => by simp at h
  | i :: r, v :: vs, h => by
    have h1 := encF_ge r vs (by simpa using h)
    have h2 := encIt_pos i v
    simp only [encF, List.length_append, List.length_cons]
    omega
theorem okF_len : ∀ {fm : List It} {vs : List Int}, okF fm vs → vs.length = fm.length
  | [], [], _ => rfl
  | [], _ :: _, h => h.elim
  | _ :: _, [], h => h.elim
  | i :: r, v :: vs, h => by simp [okF_len (fm := r) (vs := vs) h.2]
theorem byt_encIt {i : It} {v : Int} (h : okI i v) : Byt (encIt i v) := by
  cases i
  · exact byt_enc v h
  · intro x hx
    simp only [encIt, List.mem_singleton] at hx
    subst hx
    split <;> omega
theorem byt_encF : ∀ {fm : List It} {vs : List Int}, okF fm vs → Byt (encF fm vs)
  | [], [], _ => fun x hx => by simp [encF] at hx
  | [], _ :: _, h => h.elim
  | _ :: _, [], h => h.elim
  | i :: r, v :: vs, h => byt_append (byt_encIt h.1) (byt_encF h.2)
theorem rdI_back {l : List Int} {i : It} {v : Int} {s : RS} {rest : List Int} (hf : s.fe = 0) (hk : okI i v) (h : l.drop s.pos = encIt i v ++ rest) : rdI l i s = (v, ⟨s.pos + (encIt i v).length, s.fa, s.fe⟩) := by
  cases i
  · show NumR l s = _
    rw [NumR_ok hf, numR_enc l s.pos s v rest hk h]
    rfl
  · have h' : l.drop s.pos = (if v = 1 then 1 else 0) :: rest := h
    have hg : FlagR l s = if 1 < (if v = 1 then (1 : Int) else 0) then (false, ⟨s.pos, s.pos, 4⟩) else ((if v = 1 then (1 : Int) else 0) == 1, ⟨s.pos + 1, s.fa, s.fe⟩) := by unfold FlagR; rw [if_pos hf, h']
    simp only [rdI, hg, encIt]
    rcases hk with rfl | rfl <;> simp
theorem rdF_back {l : List Int} : ∀ {fm : List It} {vs : List Int} {s : RS} {rest : List Int}, s.fe = 0 → okF fm vs → l.drop s.pos = encF fm vs ++ rest → rdF l fm s = (vs, ⟨s.pos + (encF fm vs).length, s.fa, s.fe⟩)
  | [], [], s, rest, hf, _, h => rfl
  | [], _ :: _, s, rest, hf, hk, h => hk.elim
  | _ :: _, [], s, rest, hf, hk, h => hk.elim
  | i :: r, v :: vs, s, rest, hf, hk, h => by
    rw [encF, List.append_assoc] at h
    have h1 := rdI_back hf hk.1 h
    have h2 := rdF_back (l := l) (fm := r) (vs := vs) (s := ⟨s.pos + (encIt i v).length, s.fa, s.fe⟩) (rest := rest) hf hk.2 (drop_next h rfl)
    simp only [rdF, h1, h2, encF, List.length_append]
    rw [Nat.add_assoc]
theorem rdI_cut {l : List Int} {i : It} {v : Int} {s : RS} {j : Nat} (hf : s.fe = 0) (hj : j < (encIt i v).length) (h : l.drop s.pos = (encIt i v).take j) : (rdI l i s).2.fe = 3 := by
  cases i
  · show (NumR l s).2.fe = 3
    rw [NumR_ok hf, numR_bad (e := 3) (by rw [h]; exact enc_cut v j hj)]
  · have hj0 : j = 0 := by simp [encIt] at hj; exact hj
    subst hj0
    have h' : l.drop s.pos = [] := by rw [h]; rfl
    show (FlagR l s).2.fe = 3
    unfold FlagR
    rw [if_pos hf, h']
theorem rdF_cut {l : List Int} : ∀ {fm : List It} {vs : List Int} {s : RS} {j : Nat}, s.fe = 0 → okF fm vs → j < (encF fm vs).length → l.drop s.pos = (encF fm vs).take j → (rdF l fm s).2.fe = 3
  | [], [], s, j, hf, _, hj, h => by simp [encF] at hj
  | [], _ :: _, s, j, hf, hk, hj, h => hk.elim
  | _ :: _, [], s, j, hf, hk, hj, h => hk.elim
  | i :: r, v :: vs, s, j, hf, hk, hj, h => by
    rw [encF, List.take_append] at h
    by_cases hlt : j < (encIt i v).length
    · rw [show j - (encIt i v).length = 0 by omega, List.take_zero, List.append_nil] at h
      have h1 := rdI_cut hf hlt h
      simp only [rdF]
      rw [rdF_bad r (by omega)]
      exact h1
    · rw [List.take_of_length_le (by omega)] at h
      have h1 := rdI_back hf hk.1 h
      simp only [rdF, h1]
      rw [encF, List.length_append] at hj
      exact rdF_cut (l := l) (fm := r) (vs := vs) (s := ⟨s.pos + (encIt i v).length, s.fa, s.fe⟩) (j := j - (encIt i v).length) hf hk.2 (by omega) (drop_next h rfl)
theorem rdI_sound {l : List Int} {i : It} {s : RS} (hb : Byt l) (hp : s.pos ≤ l.length) (h : (rdI l i s).2.fe = 0) : s.fe = 0 ∧ (l.drop s.pos).take ((rdI l i s).2.pos - s.pos) = encIt i (rdI l i s).1 ∧ s.pos ≤ (rdI l i s).2.pos ∧ (rdI l i s).2.pos ≤ l.length ∧ okI i (rdI l i s).1 := by
  have hf : s.fe = 0 := Classical.byContradiction fun a => by rw [rdI_bad a] at h; exact a h
  cases i
  · have e : rdI l .n s = numR l s.pos s := NumR_ok hf
    rw [e] at h ⊢
    have := numR_sound l s.pos s (numR l s.pos s).2 (numR l s.pos s).1 hb rfl h
    exact ⟨hf, this.1, by omega, this.2.2.1, numR_I64 l hb s.pos s⟩
  · cases hd : l.drop s.pos with
    | nil =>
      exfalso
      have : FlagR l s = (false, ⟨s.pos, s.pos, 3⟩) := by unfold FlagR; rw [if_pos hf, hd]
      simp only [rdI, this] at h
      omega
    | cons c r =>
      have hg : FlagR l s = if 1 < c then (false, ⟨s.pos, s.pos, 4⟩) else (c == 1, ⟨s.pos + 1, s.fa, s.fe⟩) := by unfold FlagR; rw [if_pos hf, hd]
      have hlen : s.pos < l.length := by
        rcases Nat.lt_or_ge s.pos l.length with a | a
        · exact a
        · rw [List.drop_eq_nil_of_le a] at hd; cases hd
      have hc : 0 ≤ c := (hb c (List.mem_of_mem_drop (by rw [hd]; simp))).1
      by_cases h1 : 1 < c
      · exfalso
        rw [if_pos h1] at hg
        simp only [rdI, hg] at h
        omega
      · rw [if_neg h1] at hg
        have hc2 : c = 0 ∨ c = 1 := by omega
        simp only [rdI, hg, encIt]
        rw [show s.pos + 1 - s.pos = 1 by omega]
        rcases hc2 with rfl | rfl <;> (simp [okI, hf]; omega)
theorem rdF_sound {l : List Int} (hb : Byt l) : ∀ {fm : List It} {s : RS}, s.pos ≤ l.length → (rdF l fm s).2.fe = 0 → s.fe = 0 ∧ (l.drop s.pos).take ((rdF l fm s).2.pos - s.pos) = encF fm (rdF l fm s).1 ∧ s.pos ≤ (rdF l fm s).2.pos ∧ (rdF l fm s).2.pos ≤ l.length ∧ okF fm (rdF l fm s).1
  | [], s, hp, h => ⟨h, by simp [rdF, encF], Nat.le_refl _, hp, trivial⟩
  | i :: r, s, hp, h => by
    have h' : (rdF l r (rdI l i s).2).2.fe = 0 := h
    have h1 : (rdI l i s).2.fe = 0 := Classical.byContradiction fun a => by rw [rdF_bad r a] at h'; exact a h'
    obtain ⟨a1, a2, a3, a4, a5⟩ := rdI_sound hb hp h1
    obtain ⟨b1, b2, b3, b4, b5⟩ := rdF_sound hb (fm := r) a4 h'
    refine ⟨a1, ?_, Nat.le_trans a3 b3, b4, a5, b5⟩
    simp only [rdF, encF]
    rw [← a2, ← b2]
    have e : (rdF l r (rdI l i s).2).2.pos - s.pos = ((rdI l i s).2.pos - s.pos) + ((rdF l r (rdI l i s).2).2.pos - (rdI l i s).2.pos) := by omega
    rw [e, List.take_add, List.drop_drop, show s.pos + ((rdI l i s).2.pos - s.pos) = (rdI l i s).2.pos by omega]
end Go.Proofs.Ytmobdofkiddfhaa.B
