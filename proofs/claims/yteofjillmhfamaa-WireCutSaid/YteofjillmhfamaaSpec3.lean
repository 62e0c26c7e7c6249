/- Chapter 3 in plain Lean: groups of seven bits, numbers written and read. No program in sight. -/
import Derived.Laws.BitsLemmas
import Derived.Laws.ShiftsVar
import Derived.IntWalk
import Derived.WalkKit
set_option linter.unusedVariables false
set_option linter.unusedSimpArgs false
namespace Go.Proofs.Yteofjillmhfamaa.B
open Go Go.RowKit

theorem pw_wrap64 (n : Int) (h0 : -9223372036854775808 ≤ n) (h1 : n ≤ 9223372036854775807) : wrap64 n = n := by unfold wrap64; omega
theorem wrap_u64 (n : Int) : IntKind.u64.wrap n = n % 18446744073709551616 := by simp [IntKind.wrap, IntKind.bits, IntKind.signed]
theorem wrap_u64_in (n : Int) (h0 : 0 ≤ n) (h1 : n < 18446744073709551616) : IntKind.u64.wrap n = n := by rw [wrap_u64]; omega

/-! ### bits of 64 -/
theorem xor64_zero (x : Int) (h0 : 0 ≤ x) (h1 : x < 18446744073709551616) : Go.bits .xor .u64 x 0 = x := by
  show IntKind.u64.wrap (((BitVec.ofInt 64 x) ^^^ (BitVec.ofInt 64 0)).toNat : Int) = _
  obtain ⟨x, rfl⟩ := Int.eq_ofNat_of_zero_le h0
  have e : BitVec.ofInt 64 0 = 0#64 := rfl
  rw [e, BitVec.xor_zero, BitVec.ofInt_natCast, BitVec.toNat_ofNat, wrap_u64]
  omega
theorem xor64_max (x : Int) (h0 : 0 ≤ x) (h1 : x < 18446744073709551616) : Go.bits .xor .u64 x 18446744073709551615 = 18446744073709551615 - x := by
  show IntKind.u64.wrap (((BitVec.ofInt 64 x) ^^^ (BitVec.ofInt 64 18446744073709551615)).toNat : Int) = _
  obtain ⟨x, rfl⟩ := Int.eq_ofNat_of_zero_le h0
  have e : BitVec.ofInt 64 18446744073709551615 = BitVec.allOnes 64 := by decide
  rw [e, BitVec.xor_allOnes, BitVec.ofInt_natCast, BitVec.toNat_not, BitVec.toNat_ofNat, wrap_u64]
  omega
theorem xor64_max' (x : Int) (h0 : 0 ≤ x) (h1 : x < 18446744073709551616) : Go.bits .xor .u64 IntKind.u64.max x = 18446744073709551615 - x := by
  show IntKind.u64.wrap (((BitVec.ofInt 64 IntKind.u64.max) ^^^ (BitVec.ofInt 64 x)).toNat : Int) = _
  obtain ⟨x, rfl⟩ := Int.eq_ofNat_of_zero_le h0
  have e : BitVec.ofInt 64 IntKind.u64.max = BitVec.allOnes 64 := by decide
  rw [e, BitVec.allOnes_xor, BitVec.ofInt_natCast, BitVec.toNat_not, BitVec.toNat_ofNat, wrap_u64]
  omega
theorem xor64i_zero (x : Int) (h0 : 0 ≤ x) (h1 : x < 9223372036854775808) : Go.bits .xor .i64 x 0 = x := by
  show IntKind.i64.wrap (((BitVec.ofInt 64 x) ^^^ (BitVec.ofInt 64 0)).toNat : Int) = _
  obtain ⟨x, rfl⟩ := Int.eq_ofNat_of_zero_le h0
  have e : BitVec.ofInt 64 0 = 0#64 := rfl
  rw [e, BitVec.xor_zero, BitVec.ofInt_natCast, BitVec.toNat_ofNat, IntKind.wrap_i64]
  omega
theorem xor64i_max (x : Int) (h0 : 0 ≤ x) (h1 : x < 9223372036854775808) : Go.bits .xor .i64 x (-1) = -1 - x := by
  show IntKind.i64.wrap (((BitVec.ofInt 64 x) ^^^ (BitVec.ofInt 64 (-1))).toNat : Int) = _
  obtain ⟨x, rfl⟩ := Int.eq_ofNat_of_zero_le h0
  have e : BitVec.ofInt 64 (-1) = BitVec.allOnes 64 := by decide
  rw [e, BitVec.xor_allOnes, BitVec.ofInt_natCast, BitVec.toNat_not, BitVec.toNat_ofNat, IntKind.wrap_i64]
  omega
theorem xor64i_max' (x : Int) (h0 : 0 ≤ x) (h1 : x < 9223372036854775808) : Go.bits .xor .i64 (-1) x = -1 - x := by
  show IntKind.i64.wrap (((BitVec.ofInt 64 (-1)) ^^^ (BitVec.ofInt 64 x)).toNat : Int) = _
  obtain ⟨x, rfl⟩ := Int.eq_ofNat_of_zero_le h0
  have e : BitVec.ofInt 64 (-1) = BitVec.allOnes 64 := by decide
  rw [e, BitVec.allOnes_xor, BitVec.ofInt_natCast, BitVec.toNat_not, BitVec.toNat_ofNat, IntKind.wrap_i64]
  omega
theorem and64_one (x : Int) (h0 : 0 ≤ x) (h1 : x < 18446744073709551616) : Go.bits .and .u64 x 1 = x % 2 := by
  show IntKind.u64.wrap (((BitVec.ofInt 64 x) &&& (BitVec.ofInt 64 1)).toNat : Int) = _
  obtain ⟨x, rfl⟩ := Int.eq_ofNat_of_zero_le h0
  rw [show BitVec.ofInt 64 1 = 1#64 from rfl, BitVec.ofInt_natCast, BitVec.toNat_and, BitVec.toNat_ofNat, wrap_u64, show (1#64).toNat = 1 from rfl, Nat.and_one_is_mod]
  omega
theorem and8_127 (x : Int) (h0 : 0 ≤ x) (h1 : x < 256) : Go.bits .and .u8 x 127 = x % 128 := bits_mask .u8 8 (by decide) wraps_u8 7 (by decide) x h0 h1
theorem or8_128 (x : Int) (h0 : 0 ≤ x) (h1 : x < 256) : Go.bits .or .u8 x 128 = x % 128 + 128 := by
  obtain ⟨x, rfl⟩ := Int.eq_ofNat_of_zero_le h0
  have h : ∀ x : Fin 256, Go.bits .or .u8 ((x.val : Nat) : Int) 128 = ((x.val : Nat) : Int) % 128 + 128 := by decide +kernel
  exact h ⟨x, by omega⟩
theorem or64_add (a b i : Nat) (ha : a < 2 ^ i) (hs : a + b * 2 ^ i < 18446744073709551616) : Go.bits .or .u64 (a : Int) ((b * 2 ^ i : Nat) : Int) = ((a + b * 2 ^ i : Nat) : Int) := by
  show IntKind.u64.wrap (((BitVec.ofInt 64 (a : Int)) ||| (BitVec.ofInt 64 ((b * 2 ^ i : Nat) : Int))).toNat : Int) = _
  rw [BitVec.ofInt_natCast, BitVec.ofInt_natCast, wrap_u64, BitVec.toNat_or, BitVec.toNat_ofNat, BitVec.toNat_ofNat, Nat.mod_eq_of_lt (show a < 2 ^ 64 by omega), Nat.mod_eq_of_lt (show b * 2 ^ i < 2 ^ 64 by omega)]
  have := Nat.two_pow_add_eq_or_of_lt ha b
  rw [Nat.mul_comm] at this
  rw [Nat.or_comm, ← this, Nat.add_comm]
  omega

/-! ### the zigzag -/
def zig (n : Int) : Nat := if 0 ≤ n then (2 * n).toNat else (-2 * n - 1).toNat
def zag (u : Nat) : Int := if u % 2 = 0 then ((u / 2 : Nat) : Int) else -1 - ((u / 2 : Nat) : Int)
def I64 (n : Int) : Prop := -9223372036854775808 ≤ n ∧ n ≤ 9223372036854775807
theorem zig_lt (n : Int) (h : I64 n) : zig n < 18446744073709551616 := by unfold zig I64 at *; split <;> omega
theorem zag_zig (n : Int) : zag (zig n) = n := by unfold zag zig; split <;> split <;> omega
theorem zig_zag (u : Nat) : zig (zag u) = u := by unfold zag zig; split <;> split <;> omega
theorem zag_in (u : Nat) (h : u < 18446744073709551616) : I64 (zag u) := by unfold zag I64; split <;> omega
theorem zig_eq (n : Int) (h : I64 n) : Go.bits .xor .u64 (IntKind.u64.wrap (IntKind.u64.wrap n * 2)) (IntKind.u64.wrap (n / 9223372036854775808)) = (zig n : Int) := by
  unfold I64 at h
  unfold zig
  by_cases h0 : 0 ≤ n
  · rw [if_pos h0, show n / 9223372036854775808 = 0 by omega, show IntKind.u64.wrap 0 = 0 from by rw [wrap_u64]; rfl, wrap_u64_in n (by omega) (by omega), wrap_u64_in (n * 2) (by omega) (by omega), xor64_zero _ (by omega) (by omega)]
    omega
  · rw [if_neg h0, show n / 9223372036854775808 = -1 by omega, show IntKind.u64.wrap (-1) = 18446744073709551615 from by rw [wrap_u64]; rfl, wrap_u64, wrap_u64, xor64_max _ (by omega) (by omega)]
    omega
theorem zig_neg (n : Int) (h : I64 n) (h0 : n < 0) : Go.bits .xor .u64 IntKind.u64.max (IntKind.u64.wrap (IntKind.u64.wrap n * 2)) = (zig n : Int) := by
  unfold I64 at h
  unfold zig
  rw [if_neg (by omega), wrap_u64, wrap_u64, xor64_max' _ (by omega) (by omega)]
  omega
theorem zig_pos (n : Int) (h : I64 n) (h0 : ¬ n < 0) : IntKind.u64.wrap (IntKind.u64.wrap n * 2) = (zig n : Int) := by
  unfold I64 at h
  unfold zig
  rw [if_pos (by omega), wrap_u64, wrap_u64]
  omega
theorem zag_eq (u : Nat) (h : u < 18446744073709551616) : Go.bits .xor .i64 (wrap64 ((u : Int) / 2)) (wrap64 (-wrap64 (Go.bits .and .u64 (u : Int) 1))) = zag u := by
  rw [and64_one _ (by omega) (by omega), pw_wrap64 ((u : Int) / 2) (by omega) (by omega), pw_wrap64 ((u : Int) % 2) (by omega) (by omega), pw_wrap64 _ (by omega) (by omega)]
  unfold zag
  by_cases h0 : u % 2 = 0
  · rw [if_pos h0, show -((u : Int) % 2) = 0 by omega, xor64i_zero _ (by omega) (by omega)]
    omega
  · rw [if_neg h0, show -((u : Int) % 2) = -1 by omega, xor64i_max _ (by omega) (by omega)]
    omega

/-! ### groups -/
def grpF : Nat → Nat → List Int
  | 0, u => [(u : Int)]
  | k + 1, u => if u < 128 then [(u : Int)] else (((u % 128 + 128 : Nat) : Int)) :: grpF k (u / 128)
def grp (u : Nat) : List Int := grpF 9 u
theorem grpF_more (k : Nat) : ∀ u, u < 128 ^ (k + 1) → grpF (k + 1) u = grpF k u := by
  induction k with
  | zero => intro u h; simp only [grpF]; rw [if_pos (by omega)]
  | succ k ih =>
    intro u h
    rw [grpF]
    conv => rhs; rw [grpF]
    split
    · rfl
    · rw [ih (u / 128) (by rw [Nat.pow_succ] at h; omega)]
theorem grp_lt (u : Nat) (h : u < 128) : grp u = [(u : Int)] := by unfold grp grpF; rw [if_pos h]
theorem grp_ge (u : Nat) (h : ¬ u < 128) (hu : u < 18446744073709551616) : grp u = ((u % 128 + 128 : Nat) : Int) :: grp (u / 128) := by
  unfold grp
  rw [grpF, if_neg h, ← grpF_more 8 (u / 128) (by omega)]
theorem grpF_length (k : Nat) : ∀ u, 1 ≤ (grpF k u).length ∧ (grpF k u).length ≤ k + 1 := by
  induction k with
  | zero => intro u; simp [grpF]
  | succ k ih =>
    intro u
    rw [grpF]
    split
    · simp
    · have := ih (u / 128)
      simp only [List.length_cons]
      omega
theorem grp_length (u : Nat) : 1 ≤ (grp u).length ∧ (grp u).length ≤ 10 := grpF_length 9 u
def enc (n : Int) : List Int := grp (zig n)
theorem enc_length (n : Int) : 1 ≤ (enc n).length ∧ (enc n).length ≤ 10 := grp_length _

/-! ### reading -/
def Byt (l : List Int) : Prop := ∀ x ∈ l, 0 ≤ x ∧ x < 256
/-- What is read: the number of bytes and the number; or the fault. -/
inductive Got where
  | ok (len u : Nat)
  | bad (e : Int)
  deriving DecidableEq, Repr
def scan : List Int → Nat → Nat → Got
  | [], _, _ => .bad 3
  | c :: l, k, u =>
    if k = 9 ∧ 1 < c then .bad 4
    else if 128 ≤ c then scan l (k + 1) (u + (c % 128).toNat * 2 ^ (7 * k))
    else if c = 0 ∧ 0 < k then .bad 4
    else .ok (k + 1) (u + (c % 128).toNat * 2 ^ (7 * k))

/-! ### a reader's state and what each call answers -/
structure RS where
  pos : Nat
  fa : Nat
  fe : Int
  deriving DecidableEq, Repr
def numR (l : List Int) (from_ : Nat) (s : RS) : Int × RS :=
  match scan (l.drop s.pos) 0 0 with
  | .ok n u => (zag u, ⟨s.pos + n, s.fa, s.fe⟩)
  | .bad e => (0, ⟨from_, from_, e⟩)
def countR (l : List Int) (from_ : Nat) (most : Int) (s : RS) : Int × RS :=
  if (numR l from_ s).2.fe = 0 ∧ ((numR l from_ s).1 < 0 ∨ most < (numR l from_ s).1) then (0, ⟨from_, from_, 2⟩) else numR l from_ s
def NumR (l : List Int) (s : RS) : Int × RS := if s.fe = 0 then numR l s.pos s else (0, s)
def CountR (l : List Int) (most : Int) (s : RS) : Int × RS := if s.fe = 0 then countR l s.pos most s else (0, s)
def FlagR (l : List Int) (s : RS) : Bool × RS :=
  if s.fe = 0 then
    match l.drop s.pos with
    | [] => (false, ⟨s.pos, s.pos, 3⟩)
    | c :: _ => if 1 < c then (false, ⟨s.pos, s.pos, 4⟩) else (c == 1, ⟨s.pos + 1, s.fa, s.fe⟩)
  else (false, s)
def EndR (l : List Int) (s : RS) : RS := if s.fe = 0 ∧ s.pos < l.length then ⟨s.pos, s.pos, 5⟩ else s
def numsF (l : List Int) (from_ : Nat) : Nat → RS → List Int × RS
  | 0, s => ([], s)
  | n + 1, s => if s.fe = 0 then ((numR l from_ s).1 :: (numsF l from_ n (numR l from_ s).2).1, (numsF l from_ n (numR l from_ s).2).2) else ([], s)
def fin (q : List Int × RS) : List Int × RS := if q.2.fe = 0 then q else ([], q.2)
theorem fin_ok {l : List Int} {s : RS} (h : s.fe = 0) : fin (l, s) = (l, s) := by simp [fin, h]
theorem fin_bad {l : List Int} {s : RS} (h : ¬ s.fe = 0) : fin (l, s) = ([], s) := by simp [fin, h]
def NumsR (l : List Int) (most : Int) (s : RS) : List Int × RS :=
  if s.fe = 0 then fin (numsF l s.pos (countR l s.pos most s).1.toNat (countR l s.pos most s).2) else ([], s)
def TextR (l : List Int) (most : Int) (s : RS) : List Int × RS :=
  if s.fe = 0 then
    let c := countR l s.pos most s
    if c.2.fe = 0 then
      if (l.length : Int) - c.2.pos < c.1 then ([], ⟨s.pos, s.pos, 3⟩)
      else ((l.drop c.2.pos).take c.1.toNat, ⟨c.2.pos + c.1.toNat, c.2.fa, c.2.fe⟩)
    else ([], c.2)
  else ([], s)
theorem numR_bad {l : List Int} {p : Nat} {s : RS} {e : Int} (h : scan (l.drop s.pos) 0 0 = .bad e) : numR l p s = (0, ⟨p, p, e⟩) := by unfold numR; rw [h]
theorem numR_ok {l : List Int} {p : Nat} {s : RS} {n u : Nat} (h : scan (l.drop s.pos) 0 0 = .ok n u) : numR l p s = (zag u, ⟨s.pos + n, s.fa, s.fe⟩) := by unfold numR; rw [h]
theorem scan_nil (k u : Nat) : scan [] k u = .bad 3 := rfl
theorem scan_cons (c : Int) (l : List Int) (k u : Nat) : scan (c :: l) k u = if k = 9 ∧ 1 < c then .bad 4 else if 128 ≤ c then scan l (k + 1) (u + (c % 128).toNat * 2 ^ (7 * k)) else if c = 0 ∧ 0 < k then .bad 4 else .ok (k + 1) (u + (c % 128).toNat * 2 ^ (7 * k)) := rfl
theorem scan_len (l : List Int) : ∀ k u n v, scan l k u = .ok n v → n ≤ k + l.length := by
  induction l with
  | nil => intro k u n v h; simp [scan] at h
  | cons c l ih =>
    intro k u n v h
    simp only [scan] at h
    split at h
    · cases h
    · split at h
      · have := ih _ _ _ _ h
        simp only [List.length_cons]
        omega
      · split at h
        · cases h
        · simp only [Got.ok.injEq] at h
          simp only [List.length_cons]
          omega
theorem scan_pos (l : List Int) : ∀ k u n v, scan l k u = .ok n v → k < n := by
  induction l with
  | nil => intro k u n v h; simp [scan] at h
  | cons c l ih =>
    intro k u n v h
    simp only [scan] at h
    split at h
    · cases h
    · split at h
      · have := ih _ _ _ _ h
        omega
      · split at h
        · cases h
        · simp only [Got.ok.injEq] at h
          omega
theorem scan_bad (l : List Int) : ∀ k u e, scan l k u = .bad e → e = 3 ∨ e = 4 := by
  induction l with
  | nil => intro k u e h; simp [scan] at h; exact .inl h.symm
  | cons c l ih =>
    intro k u e h
    simp only [scan] at h
    split at h
    · simp at h; exact .inr h.symm
    · split at h
      · exact ih _ _ _ h
      · split at h
        · simp at h; exact .inr h.symm
        · cases h
theorem numR_pos (l : List Int) (f : Nat) (s : RS) (h : s.pos ≤ l.length) (hf : f ≤ l.length) : (numR l f s).2.pos ≤ l.length := by
  unfold numR
  split
  · rename_i n u he
    have := scan_len _ _ _ _ _ he
    rw [List.length_drop] at this
    simp only
    omega
  · exact hf
theorem scan_lt (l : List Int) : Byt l → ∀ k u n v, k ≤ 9 → u < 2 ^ (7 * k) → scan l k u = .ok n v → v < 18446744073709551616 := by
  induction l with
  | nil => intro _ k u n v _ _ h; simp [scan] at h
  | cons c l ih =>
    intro hb k u n v hk hu h
    have hc := hb c (by simp)
    have hl : Byt l := fun x hx => hb x (by simp [hx])
    simp only [scan] at h
    have hm : (c % 128).toNat * 2 ^ (7 * k) ≤ 127 * 2 ^ (7 * k) := Nat.mul_le_mul_right _ (by omega)
    split at h
    · cases h
    · rename_i h9
      split at h
      · rename_i h128
        by_cases hk9 : k = 9
        · exact absurd ⟨hk9, by omega⟩ h9
        · refine ih hl (k + 1) _ n v (by omega) ?_ h
          rw [show 7 * (k + 1) = 7 * k + 7 by omega, Nat.pow_add]
          omega
      · split at h
        · cases h
        · simp only [Got.ok.injEq] at h
          obtain ⟨_, rfl⟩ := h
          by_cases hk9 : k = 9
          · subst hk9
            have : (c % 128).toNat ≤ 1 := by
              by_cases hc1 : 1 < c
              · exact absurd ⟨rfl, hc1⟩ h9
              · omega
            have h2 : (c % 128).toNat * 2 ^ (7 * 9) ≤ 1 * 2 ^ (7 * 9) := Nat.mul_le_mul_right _ this
            omega
          · have h56 : 2 ^ (7 * k) ≤ 2 ^ 56 := Nat.pow_le_pow_right (by omega) (by omega)
            omega
theorem or_group (x : Int) (u k : Nat) (h0 : 0 ≤ x) (h1 : x < 256) (hu : u < 2 ^ (7 * k)) (hk : k ≤ 9) (h9 : k = 9 → x ≤ 1) :
    Go.bits .or .u64 (u : Int) (IntKind.u64.wrap (x % 128 * 2 ^ (7 * k))) = ((u + (x % 128).toNat * 2 ^ (7 * k) : Nat) : Int) ∧ u + (x % 128).toNat * 2 ^ (7 * k) < 18446744073709551616 := by
  obtain ⟨y, hy⟩ := Int.eq_ofNat_of_zero_le (show 0 ≤ x % 128 by omega)
  have hy2 : y ≤ 127 := by omega
  have hs : u + y * 2 ^ (7 * k) < 18446744073709551616 := by
    by_cases hk9 : k = 9
    · subst hk9
      have := h9 rfl
      have h2 : y * 2 ^ (7 * 9) ≤ 1 * 2 ^ (7 * 9) := Nat.mul_le_mul_right _ (by omega)
      omega
    · have h56 : 2 ^ (7 * k) ≤ 2 ^ 56 := Nat.pow_le_pow_right (by omega) (by omega)
      have : y * 2 ^ (7 * k) ≤ 127 * 2 ^ (7 * k) := Nat.mul_le_mul_right _ hy2
      omega
  have e : (y : Int) * 2 ^ (7 * k) = ((y * 2 ^ (7 * k) : Nat) : Int) := by simp
  rw [hy, Int.toNat_natCast, e, wrap_u64_in _ (by omega) (by omega)]
  exact ⟨or64_add u y (7 * k) hu hs, hs⟩
theorem group_lt (x : Int) (u k : Nat) (h0 : 0 ≤ x) (hu : u < 2 ^ (7 * k)) : u + (x % 128).toNat * 2 ^ (7 * k) < 2 ^ (7 * (k + 1)) := by
  have : (x % 128).toNat * 2 ^ (7 * k) ≤ 127 * 2 ^ (7 * k) := Nat.mul_le_mul_right _ (by omega)
  rw [show 7 * (k + 1) = 7 * k + 7 by omega, Nat.pow_add]
  omega
theorem numR_I64 (l : List Int) (hb : Byt l) (f : Nat) (s : RS) : I64 (numR l f s).1 := by
  unfold numR
  split
  · rename_i n u he
    exact zag_in u (scan_lt _ (fun x hx => hb x (List.mem_of_mem_drop hx)) 0 0 n u (by omega) (by decide) he)
  · simp [I64]
theorem numR_adv (l : List Int) (f : Nat) (s : RS) (h : (numR l f s).2.fe = 0) : s.pos < (numR l f s).2.pos ∧ (numR l f s).2.pos ≤ l.length ∧ (numR l f s).2.fa = s.fa := by
  unfold numR at h ⊢
  split
  · rename_i n u he
    have h1 := scan_len _ _ _ _ _ he
    have h2 := scan_pos _ _ _ _ _ he
    rw [List.length_drop] at h1
    exact ⟨by simp only; omega, by simp only; omega, rfl⟩
  · rename_i e he
    rw [he] at h
    have := scan_bad _ _ _ _ he
    simp only at h
    omega
theorem countR_ok (l : List Int) (f : Nat) (most : Int) (s : RS) (h : (countR l f most s).2.fe = 0) : 0 ≤ (countR l f most s).1 ∧ (countR l f most s).1 ≤ most ∧ countR l f most s = numR l f s := by
  unfold countR at h ⊢
  split
  · rename_i hc
    rw [if_pos hc] at h
    cases h
  · rename_i hc
    rw [if_neg hc] at h
    refine ⟨?_, ?_, rfl⟩
    · by_cases h2 : 0 ≤ (numR l f s).1
      · exact h2
      · exact absurd ⟨h, .inl (by omega)⟩ hc
    · by_cases h2 : (numR l f s).1 ≤ most
      · exact h2
      · exact absurd ⟨h, .inr (by omega)⟩ hc
theorem numR_zero (l : List Int) (f : Nat) (s : RS) (hs : s.fe = 0) (h : ¬ (numR l f s).2.fe = 0) : (numR l f s).1 = 0 := by
  unfold numR at h ⊢
  split
  · rename_i n u he
    rw [he] at h
    exact absurd hs h
  · rfl
theorem countR_zero (l : List Int) (f : Nat) (most : Int) (s : RS) (hs : s.fe = 0) (h : ¬ (countR l f most s).2.fe = 0) : (countR l f most s).1 = 0 := by
  unfold countR at h ⊢
  split
  · rfl
  · rename_i hc
    rw [if_neg hc] at h
    exact numR_zero l f s hs h
theorem countR_I64 (l : List Int) (hb : Byt l) (f : Nat) (most : Int) (s : RS) : I64 (countR l f most s).1 := by
  unfold countR
  split
  · simp [I64]
  · exact numR_I64 l hb f s
theorem countR_pos (l : List Int) (f : Nat) (most : Int) (s : RS) (hs : s.pos ≤ l.length) (hf : f ≤ l.length) : (countR l f most s).2.pos ≤ l.length := by
  unfold countR
  split
  · exact hf
  · exact numR_pos l f s hs hf
/-! ### the reference's number and count -/
def numberR (l : List Int) (at_ : Nat) : Int × Nat × Int :=
  match scan (l.drop at_) 0 0 with
  | .ok n u => (zag u, at_ + n, 0)
  | .bad e => (0, 0, e)
theorem numberR_bad {l : List Int} {p : Nat} {e : Int} (h : scan (l.drop p) 0 0 = .bad e) : numberR l p = (0, 0, e) := by unfold numberR; rw [h]
theorem numberR_ok {l : List Int} {p n u : Nat} (h : scan (l.drop p) 0 0 = .ok n u) : numberR l p = (zag u, p + n, 0) := by unfold numberR; rw [h]
def countF (l : List Int) (at_ : Nat) (most : Int) : Int × Nat × Int := if (numberR l at_).2.2 = 0 ∧ ((numberR l at_).1 < 0 ∨ most < (numberR l at_).1) then (0, 0, 2) else numberR l at_
theorem numR_eq (l : List Int) (f : Nat) (s : RS) : numR l f s = if (numberR l s.pos).2.2 = 0 then ((numberR l s.pos).1, ⟨(numberR l s.pos).2.1, s.fa, s.fe⟩) else (0, ⟨f, f, (numberR l s.pos).2.2⟩) := by
  unfold numR numberR
  cases h : scan (l.drop s.pos) 0 0 with
  | ok n u => simp
  | bad e =>
    have := scan_bad _ _ _ _ h
    simp only
    rw [if_neg (by omega)]
theorem countR_eq (l : List Int) (most : Int) (s : RS) (hs : s.fe = 0) : countR l s.pos most s = if (countF l s.pos most).2.2 = 0 then ((countF l s.pos most).1, ⟨(countF l s.pos most).2.1, s.fa, s.fe⟩) else (0, ⟨s.pos, s.pos, (countF l s.pos most).2.2⟩) := by
  unfold countR countF
  rw [numR_eq]
  obtain ⟨n, to, e⟩ := numberR l s.pos
  simp only
  by_cases h : e = 0
  · by_cases hc : n < 0 ∨ most < n
    · simp [h, hc, hs]
    · simp [h, hc, hs]
  · simp [h]
theorem numberR_pos (l : List Int) (p : Nat) (hp : p ≤ l.length) : (numberR l p).2.1 ≤ l.length := by
  unfold numberR
  cases h : scan (l.drop p) 0 0 with
  | ok n u =>
    have := scan_len _ _ _ _ _ h
    rw [List.length_drop] at this
    simp only; omega
  | bad e => simp
theorem countF_pos (l : List Int) (p : Nat) (most : Int) (hp : p ≤ l.length) : (countF l p most).2.1 ≤ l.length := by
  unfold countF
  by_cases h : (numberR l p).2.2 = 0 ∧ ((numberR l p).1 < 0 ∨ most < (numberR l p).1)
  · rw [if_pos h]; exact Nat.zero_le _
  · rw [if_neg h]; exact numberR_pos l p hp
end Go.Proofs.Yteofjillmhfamaa.B
