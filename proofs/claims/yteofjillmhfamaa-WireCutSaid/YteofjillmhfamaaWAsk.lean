/- draylaw3.ask, walked: an item asked of both readers. Written by gen_ask.py. -/
import Derived.Test.YteofjillmhfamaaWReads
import Derived.Test.YteofjillmhfamaaPure3
set_option linter.unusedVariables false
set_option linter.unusedSimpArgs false
namespace Go.Proofs.Yteofjillmhfamaa
open Go.RowKit B
theorem notGG {g g' n : Nat} (h1 : g < n) (h2 : g' < n) : ¬ GG g g' n := fun a => a.elim (fun e => by omega) (fun e => by omega)

theorem numsF_len (n : Nat) : ∀ (l : List Int) (f : Nat) (s : RS), s.pos ≤ l.length → (numsF l f n s).2.fe = 0 → (numsF l f n s).1.length + s.pos ≤ (numsF l f n s).2.pos ∧ (numsF l f n s).2.pos ≤ l.length := by
  induction n with
  | zero => intro l f s hp _; simpa [numsF] using hp
  | succ n ih =>
    intro l f s hp hf
    by_cases h0 : s.fe = 0
    · rw [numsF_ok l f n s h0] at hf ⊢
      have h1 : (numR l f s).2.fe = 0 := by
        by_cases h1 : (numR l f s).2.fe = 0
        · exact h1
        · rw [numsF_bad l f n _ h1] at hf; exact hf
      have h2 := numR_adv l f s h1
      have h3 := ih l f _ h2.2.1 hf
      simp only [List.length_cons]
      omega
    · rw [numsF_bad l f (n + 1) s h0]
      simpa using hp
theorem NumsR_len (l : List Int) (most : Int) (s : RS) (hp : s.pos ≤ l.length) (hl : l.length ≤ 225000000000000) : (NumsR l most s).1.length ≤ 225000000000000 := by
  unfold NumsR
  split
  · next h =>
    unfold fin
    split
    · next h2 =>
      have := numsF_len (countR l s.pos most s).1.toNat l s.pos (countR l s.pos most s).2 (countR_pos l s.pos most s hp hp) h2
      omega
    · simp
  · simp
theorem Own.slice_row {w : World} {e size : Nat} {ok : Nat → Prop} {A : Option Addr} {n c : Nat} {vs : List Value} (h : Own w e size ok (.slice A n c) n vs) : Row w A vs := by
  obtain ⟨A', c', e, _, _, r⟩ := h.slice
  injection e with e1 e2 e3
  subst e1
  exact r
end Go.Proofs.Yteofjillmhfamaa
