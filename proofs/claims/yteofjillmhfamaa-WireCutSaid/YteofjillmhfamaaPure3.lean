/- Chapter 3's laws in plain Lean: what is written is read back, what is read is what was written. -/
import Derived.Test.YteofjillmhfamaaSpec3
set_option linter.unusedVariables false
set_option linter.unusedSimpArgs false
namespace Go.Proofs.Yteofjillmhfamaa.B
open Go Go.RowKit
theorem pow7 (k : Nat) : 2 ^ (7 * (k + 1)) = 2 ^ (7 * k) * 128 := by rw [show 7 * (k + 1) = 7 * k + 7 by omega, Nat.pow_add]
theorem div_digit (u0 c p : Nat) (hu : u0 < p) (hp : 0 < p) : (u0 + c * p) / p = c ∧ (u0 + c * p) % p = u0 := by
  constructor
  · rw [Nat.add_mul_div_right _ _ hp, Nat.div_eq_of_lt hu]; omega
  · rw [Nat.add_mul_mod_self_right, Nat.mod_eq_of_lt hu]
/-- What is read as a number is the number's groups. -/
theorem scan_grp (l : List Int) : ∀ (k u0 n u : Nat), Byt l → k ≤ 9 → u0 < 2 ^ (7 * k) → scan l k u0 = .ok n u →
    u % 2 ^ (7 * k) = u0 ∧ (0 < k → u / 2 ^ (7 * k) ≠ 0) ∧ l.take (n - k) = grpF (9 - k) (u / 2 ^ (7 * k)) := by
  induction l with
  | nil => intro k u0 n u _ _ _ h; simp [scan] at h
  | cons c l ih =>
    intro k u0 n u hb hk hu h
    have hc := hb c (by simp)
    have hl : Byt l := fun x hx => hb x (by simp [hx])
    have hp : 0 < 2 ^ (7 * k) := Nat.pow_pos (by omega)
    rw [scan_cons] at h
    by_cases h9 : k = 9 ∧ 1 < c
    · rw [if_pos h9] at h; cases h
    rw [if_neg h9] at h
    obtain ⟨d, hd⟩ := Int.eq_ofNat_of_zero_le (show 0 ≤ c % 128 by omega)
    have hd2 : d < 128 := by omega
    rw [hd, Int.toNat_natCast] at h
    by_cases h128 : 128 ≤ c
    · rw [if_pos h128] at h
      have hk8 : k ≤ 8 := by
        by_cases e : k = 9
        · exact absurd ⟨e, by omega⟩ h9
        · omega
      have hg : u0 + d * 2 ^ (7 * k) < 2 ^ (7 * (k + 1)) := by
        have : d * 2 ^ (7 * k) ≤ 127 * 2 ^ (7 * k) := Nat.mul_le_mul_right _ (by omega)
        rw [pow7]; omega
      obtain ⟨i1, i2, i3⟩ := ih (k + 1) _ n u hl (by omega) hg h
      have hn := scan_pos _ _ _ _ _ h
      obtain ⟨v, hv⟩ : ∃ v, v = u / 2 ^ (7 * k) := ⟨_, rfl⟩
      have hdiv : u / 2 ^ (7 * (k + 1)) = v / 128 := by rw [pow7, ← Nat.div_div_eq_div_mul, hv]
      have hmod : u % 2 ^ (7 * k) = u0 := by
        have e := Nat.mod_mul_right_mod u (2 ^ (7 * k)) 128
        rw [← pow7, i1] at e
        rw [← e]
        exact (div_digit u0 d _ hu hp).2
      have hvd : v % 128 = d := by
        have e : (u % (2 ^ (7 * k) * 128)) / 2 ^ (7 * k) = u / 2 ^ (7 * k) % 128 := Nat.mod_mul_right_div_self u (2 ^ (7 * k)) 128
        rw [← pow7, i1, (div_digit u0 d _ hu hp).1, ← hv] at e
        exact e.symm
      rw [hdiv] at i2 i3
      have hv0 := i2 (by omega)
      refine ⟨hmod, fun _ => by rw [← hv]; omega, ?_⟩
      rw [← hv, show 9 - k = (9 - (k + 1)) + 1 by omega, grpF, if_neg (by omega), ← i3, show n - k = (n - (k + 1)) + 1 by omega, List.take_succ_cons]
      congr 1
      omega
    · rw [if_neg h128] at h
      by_cases hz : c = 0 ∧ 0 < k
      · rw [if_pos hz] at h; cases h
      rw [if_neg hz] at h
      simp only [Got.ok.injEq] at h
      obtain ⟨rfl, rfl⟩ := h
      obtain ⟨e1, e2⟩ := div_digit u0 d _ hu hp
      refine ⟨e2, fun hk0 => ?_, ?_⟩
      · rw [e1]
        intro e
        exact hz ⟨by omega, hk0⟩
      · rw [e1, show k + 1 - k = 1 by omega, List.take_succ_cons, List.take_zero]
        have hcd : c = (d : Int) := by omega
        cases h9' : 9 - k with
        | zero => simp [grpF, hcd]
        | succ m => rw [grpF, if_pos hd2, hcd]
theorem scan_enc (l : List Int) (n u : Nat) (hb : Byt l) (h : scan l 0 0 = .ok n u) : l.take n = grp u := by
  have := (scan_grp l 0 0 n u hb (by omega) (by decide) h).2.2
  simpa [grp] using this
/-- What is written is read back, whatever stands behind it. -/
theorem grp_scan (m : Nat) : ∀ (k v u0 : Nat) (rest : List Int), k + m = 9 → v < 2 ^ (64 - 7 * k) → (0 < k → v ≠ 0) → scan (grpF m v ++ rest) k u0 = .ok (k + (grpF m v).length) (u0 + v * 2 ^ (7 * k)) := by
  induction m with
  | zero =>
    intro k v u0 rest hk hv h0
    obtain rfl : k = 9 := by omega
    have hv2 : v < 2 := by simpa using hv
    simp only [grpF, List.cons_append, List.nil_append, List.length_singleton]
    rw [scan_cons, if_neg (by omega), if_neg (by omega), if_neg (by have := h0 (by omega); omega)]
    congr 3
    omega
  | succ m ih =>
    intro k v u0 rest hk hv h0
    rw [grpF]
    by_cases h : v < 128
    · rw [if_pos h]
      simp only [List.cons_append, List.nil_append, List.length_singleton]
      rw [scan_cons, if_neg (by omega), if_neg (by omega), if_neg (fun a => h0 a.2 (by omega))]
      congr 3
      omega
    · rw [if_neg h]
      simp only [List.cons_append, List.length_cons]
      rw [scan_cons, if_neg (by omega), if_pos (by omega)]
      have hmod : (((v % 128 + 128 : Nat) : Int) % 128).toNat = v % 128 := by omega
      rw [hmod, ih (k + 1) (v / 128) _ rest (by omega) ?_ (by omega)]
      · have e : u0 + v % 128 * 2 ^ (7 * k) + v / 128 * 2 ^ (7 * (k + 1)) = u0 + v * 2 ^ (7 * k) := by
          rw [pow7]
          have hv' : v * 2 ^ (7 * k) = (v % 128 + 128 * (v / 128)) * 2 ^ (7 * k) := by rw [Nat.mod_add_div]
          rw [hv', Nat.add_mul, Nat.mul_comm 128 (v / 128), Nat.mul_assoc (v / 128) 128, Nat.mul_comm 128 (2 ^ (7 * k))]
          omega
        rw [e, show k + 1 + (grpF m (v / 128)).length = k + ((grpF m (v / 128)).length + 1) by omega]
      · have e : 64 - 7 * k = (64 - 7 * (k + 1)) + 7 := by omega
        rw [e, Nat.pow_add] at hv
        omega
theorem enc_scan (n : Int) (h : I64 n) (rest : List Int) : scan (enc n ++ rest) 0 0 = .ok (enc n).length (zig n) := by
  have := grp_scan 9 0 (zig n) 0 rest (by omega) (by simpa using zig_lt n h) (by omega)
  simpa [enc, grp] using this
/-- Cut off anywhere it ends too early. -/
theorem grp_cut (m : Nat) : ∀ (k v u0 j : Nat), k + m = 9 → j < (grpF m v).length → scan ((grpF m v).take j) k u0 = .bad 3 := by
  induction m with
  | zero =>
    intro k v u0 j hk hj
    have : j = 0 := by simp [grpF] at hj; omega
    subst this
    simp [scan]
  | succ m ih =>
    intro k v u0 j hk hj
    rw [grpF] at hj ⊢
    by_cases h : v < 128
    · rw [if_pos h] at hj ⊢
      have : j = 0 := by simp at hj; omega
      subst this
      simp [scan]
    · rw [if_neg h] at hj ⊢
      cases j with
      | zero => simp [scan]
      | succ j =>
        rw [List.take_succ_cons, scan_cons, if_neg (by omega), if_pos (by omega)]
        exact ih (k + 1) (v / 128) _ j (by omega) (by simpa using hj)
theorem enc_cut (n : Int) (j : Nat) (hj : j < (enc n).length) : scan ((enc n).take j) 0 0 = .bad 3 := grp_cut 9 0 (zig n) 0 j (by omega) hj
theorem byt_grpF (m : Nat) : ∀ v, v < 128 ^ m * 256 → Byt (grpF m v) := by
  induction m with
  | zero => intro v h x hx; simp [grpF] at hx; simp at h; omega
  | succ m ih =>
    intro v h x hx
    rw [grpF] at hx
    split at hx
    · simp at hx; omega
    · simp only [List.mem_cons] at hx
      rcases hx with rfl | hx
      · omega
      · refine ih (v / 128) ?_ x hx
        rw [Nat.pow_succ] at h
        have : 128 ^ m * 128 * 256 = 128 ^ m * 256 * 128 := by omega
        omega
theorem byt_enc (n : Int) (h : I64 n) : Byt (enc n) := byt_grpF 9 (zig n) (by have := zig_lt n h; omega)
def encs (l : List Int) : List Int := l.flatMap enc
theorem byt_append {l m : List Int} (h1 : Byt l) (h2 : Byt m) : Byt (l ++ m) := fun x hx => by
  rcases List.mem_append.1 hx with h | h
  · exact h1 x h
  · exact h2 x h
theorem byt_encs (l : List Int) (h : ∀ n ∈ l, I64 n) : Byt (encs l) := by
  induction l with
  | nil => intro x hx; simp [encs] at hx
  | cons n l ih =>
    have e : encs (n :: l) = enc n ++ encs l := by simp [encs]
    rw [e]
    exact byt_append (byt_enc n (h n (by simp))) (ih (fun m hm => h m (by simp [hm])))
theorem byt_drop {l : List Int} (h : Byt l) (n : Nat) : Byt (l.drop n) := fun x hx => h x (List.mem_of_mem_drop hx)
theorem enc_zag (u : Nat) : enc (zag u) = grp u := by unfold enc; rw [zig_zag]
/-- A number read. -/
theorem numR_sound (l : List Int) (f : Nat) (s s' : RS) (n : Int) (hb : Byt l) (h : numR l f s = (n, s')) (hf : s'.fe = 0) : (l.drop s.pos).take (s'.pos - s.pos) = enc n ∧ s.pos < s'.pos ∧ s'.pos ≤ l.length ∧ s'.fa = s.fa ∧ s.fe = 0 := by
  have ha := numR_adv l f s (by rw [h]; exact hf)
  rw [h] at ha
  unfold numR at h
  split at h
  · rename_i k u he
    simp only [Prod.mk.injEq] at h
    obtain ⟨rfl, rfl⟩ := h
    refine ⟨?_, ha.1, ha.2.1, rfl, hf⟩
    simp only
    rw [show s.pos + k - s.pos = k by omega, enc_zag]
    exact scan_enc _ _ _ (byt_drop hb _) he
  · rename_i e he
    simp only [Prod.mk.injEq] at h
    obtain ⟨_, rfl⟩ := h
    have := scan_bad _ _ _ _ he
    simp only at hf
    omega
theorem numR_enc (l : List Int) (f : Nat) (s : RS) (n : Int) (rest : List Int) (hn : I64 n) (h : l.drop s.pos = enc n ++ rest) : numR l f s = (n, ⟨s.pos + (enc n).length, s.fa, s.fe⟩) := by
  have := enc_scan n hn rest
  rw [← h] at this
  rw [numR_ok this, zag_zig]
theorem drop_next {l : List Int} {p k : Nat} {a r : List Int} (h : l.drop p = a ++ r) (hk : a.length = k) : l.drop (p + k) = r := by
  rw [← List.drop_drop, h, ← hk, List.drop_left]
theorem numsF_enc (ns : List Int) : ∀ (l : List Int) (f : Nat) (s : RS) (rest : List Int), s.fe = 0 → (∀ n ∈ ns, I64 n) → l.drop s.pos = encs ns ++ rest → numsF l f ns.length s = (ns, ⟨s.pos + (encs ns).length, s.fa, s.fe⟩) := by
  induction ns with
  | nil => intro l f s rest hf _ h; simp [numsF, encs]
  | cons n ns ih =>
    intro l f s rest hf hI h
    have e : encs (n :: ns) = enc n ++ encs ns := by simp [encs]
    rw [e, List.append_assoc] at h
    rw [List.length_cons, numsF, if_pos hf, numR_enc l f s n _ (hI n (by simp)) h]
    simp only
    rw [ih l f ⟨s.pos + (enc n).length, s.fa, s.fe⟩ rest hf (fun m hm => hI m (by simp [hm])) (drop_next h rfl)]
    simp only [e, List.length_append, Nat.add_assoc]
theorem numsF_sound (n : Nat) : ∀ (l : List Int) (f : Nat) (s s' : RS) (ns : List Int), Byt l → s.pos ≤ l.length → numsF l f n s = (ns, s') → s'.fe = 0 → ns.length = n ∧ (l.drop s.pos).take (s'.pos - s.pos) = encs ns ∧ s.pos ≤ s'.pos ∧ s'.pos ≤ l.length ∧ s'.fa = s.fa ∧ (∀ x ∈ ns, I64 x) := by
  induction n with
  | zero =>
    intro l f s s' ns _ hp h hf
    simp only [numsF, Prod.mk.injEq] at h
    obtain ⟨rfl, rfl⟩ := h
    simp [encs, hp]
  | succ n ih =>
    intro l f s s' ns hb hp h hf
    rw [numsF] at h
    by_cases h0 : s.fe = 0
    · rw [if_pos h0] at h
      obtain ⟨x, s1, hx⟩ : ∃ x s1, numR l f s = (x, s1) := ⟨_, _, rfl⟩
      obtain ⟨r, s2, hr⟩ : ∃ r s2, numsF l f n s1 = (r, s2) := ⟨_, _, rfl⟩
      rw [hx] at h
      simp only at h
      rw [hr] at h
      simp only [Prod.mk.injEq] at h
      obtain ⟨rfl, rfl⟩ := h
      have h1 : s1.fe = 0 := by
        by_cases e : s1.fe = 0
        · exact e
        · cases n with
          | zero => simp [numsF] at hr; rw [← hr.2] at hf; exact hf
          | succ n => rw [numsF, if_neg e] at hr; simp at hr; rw [← hr.2] at hf; exact hf
      obtain ⟨a1, a2, a3, a4, a5⟩ := numR_sound l f s s1 x hb hx h1
      obtain ⟨b1, b2, b3, b4, b5, b6⟩ := ih l f s1 s2 r hb a3 hr hf
      have hxI : I64 x := by have := numR_I64 l hb f s; rw [hx] at this; exact this
      refine ⟨by simp [b1], ?_, by omega, b4, by rw [b5, a4], fun y hy => ?_⟩
      · have e : encs (x :: r) = enc x ++ encs r := by simp [encs]
        rw [e, ← a1, ← b2, show s2.pos - s.pos = (s1.pos - s.pos) + (s2.pos - s1.pos) by omega, List.take_add, List.drop_drop, show s.pos + (s1.pos - s.pos) = s1.pos by omega]
      · rcases List.mem_cons.1 hy with rfl | hy
        · exact hxI
        · exact b6 y hy
    · rw [if_neg h0] at h
      simp only [Prod.mk.injEq] at h
      rw [← h.2] at hf
      exact absurd hf h0
/-- Bytes that are read as numbers to the end are those that write them. -/
theorem one_law (b : List Int) (ns : List Int) (s : RS) (hb : Byt b) (h : NumsR b b.length ⟨0, 0, 0⟩ = (ns, s)) (he : (EndR b s).fe = 0) : enc ns.length ++ encs ns = b ∧ (∀ x ∈ ns, I64 x) := by
  have hs : s.fe = 0 ∧ ¬ s.pos < b.length := by
    unfold EndR at he
    by_cases hc : s.fe = 0 ∧ s.pos < b.length
    · rw [if_pos hc] at he; cases he
    · rw [if_neg hc] at he
      exact ⟨he, fun a => hc ⟨he, a⟩⟩
  unfold NumsR at h
  rw [if_pos rfl] at h
  obtain ⟨n, s1, hn⟩ : ∃ n s1, countR b 0 b.length ⟨0, 0, 0⟩ = (n, s1) := ⟨_, _, rfl⟩
  simp only at h
  rw [hn] at h
  simp only at h
  obtain ⟨r, s2, hr⟩ : ∃ r s2, numsF b 0 n.toNat s1 = (r, s2) := ⟨_, _, rfl⟩
  rw [hr] at h
  unfold fin at h
  simp only at h
  by_cases h2 : s2.fe = 0
  · rw [if_pos h2] at h
    simp only [Prod.mk.injEq] at h
    obtain ⟨rfl, rfl⟩ := h
    have h1 : s1.fe = 0 := by
      by_cases e : s1.fe = 0
      · exact e
      · have hz := countR_zero b 0 b.length ⟨0, 0, 0⟩ rfl (by rw [hn]; exact e)
        rw [hn] at hz
        simp only at hz
        rw [hz] at hr
        simp [numsF] at hr
        rw [← hr.2] at h2
        exact h2
    have hc := countR_ok b 0 b.length ⟨0, 0, 0⟩ (by rw [hn]; exact h1)
    rw [hn] at hc
    obtain ⟨c1, c2, c3⟩ := hc
    obtain ⟨a1, a2, a3, a4, a5⟩ := numR_sound b 0 ⟨0, 0, 0⟩ s1 n hb c3.symm h1
    obtain ⟨b1, b2, b3, b4, b5, b6⟩ := numsF_sound n.toNat b 0 s1 s2 r hb a3 hr h2
    simp only at c1
    refine ⟨?_, b6⟩
    have hl : s2.pos = b.length := by have := hs.2; omega
    have e1 : ((r.length : Nat) : Int) = n := by rw [b1]; omega
    rw [e1, ← a1, ← b2, hl, List.drop_zero]
    simp only [Nat.sub_zero]
    rw [List.take_of_length_le (l := b.drop s1.pos) (by rw [List.length_drop]; omega), List.take_append_drop]
  · rw [if_neg h2] at h
    simp only [Prod.mk.injEq] at h
    rw [← h.2] at hs
    exact absurd hs.1 h2
end Go.Proofs.Yteofjillmhfamaa.B
