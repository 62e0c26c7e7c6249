/- Sums in plain Lean: a shift register of 32 bits; its numbers. No program in sight. -/
import Derived.Test.YtghkgfeamijefaaSpec3
set_option linter.unusedVariables false
set_option linter.unusedSimpArgs false
namespace Go.Proofs.Ytghkgfeamijefaa.B
open Go Go.RowKit
/-! ### The sum of bits, in plain Lean: a shift register of 32 bits -/
def gen : BitVec 32 := 3988292384#32
def stp (s : BitVec 32) : BitVec 32 := (s >>> 1) ^^^ (if s.getLsbD 0 = true then gen else 0#32)
def stps : Nat → BitVec 32 → BitVec 32
  | 0, s => s
  | n + 1, s => stps n (stp s)
theorem stp_xor (a b : BitVec 32) : stp (a ^^^ b) = stp a ^^^ stp b := by
  unfold stp
  have h : (a ^^^ b).getLsbD 0 = (a.getLsbD 0 ^^ b.getLsbD 0) := BitVec.getLsbD_xor
  rw [h]
  have hs : (a ^^^ b) >>> 1 = (a >>> 1) ^^^ (b >>> 1) := by
    ext i hi
    simp
  rw [hs]
  generalize a >>> 1 = x
  generalize b >>> 1 = y
  cases a.getLsbD 0 <;> cases b.getLsbD 0
  · simp
  · simp only [Bool.false_bne, Bool.false_eq_true, if_false, if_true, Bool.xor_true, Bool.not_false, BitVec.xor_zero, Bool.false_xor]; ac_rfl
  · simp only [Bool.false_eq_true, if_false, if_true, Bool.xor_false, BitVec.xor_zero]; ac_rfl
  · simp only [Bool.xor_self, Bool.false_eq_true, if_false, if_true]
    rw [show x ^^^ gen ^^^ (y ^^^ gen) = x ^^^ y ^^^ (gen ^^^ gen) by ac_rfl, BitVec.xor_self]
theorem stp_zero : stp 0#32 = 0#32 := by decide
theorem stp_eq_zero (s : BitVec 32) (h : stp s = 0#32) : s = 0#32 := by
  unfold stp at h
  cases h0 : s.getLsbD 0 with
  | true =>
    rw [h0] at h
    simp only [if_true] at h
    have h31 : ((s >>> 1) ^^^ gen).getLsbD 31 = false := by rw [h]; rfl
    rw [BitVec.getLsbD_xor, BitVec.getLsbD_ushiftRight] at h31
    have hg : gen.getLsbD 31 = true := by decide
    have hz : s.getLsbD (1 + 31) = false := BitVec.getLsbD_of_ge _ _ (by omega)
    rw [hg, hz] at h31
    cases h31
  | false =>
    rw [h0] at h
    simp only [Bool.false_eq_true, if_false, BitVec.xor_zero] at h
    ext i hi
    rw [BitVec.getElem_zero, ← BitVec.getLsbD_eq_getElem]
    cases i with
    | zero => exact h0
    | succ i =>
      have : (s >>> 1).getLsbD i = false := by rw [h]; simp
      rw [BitVec.getLsbD_ushiftRight, Nat.add_comm] at this
      exact this
theorem stps_xor (n : Nat) : ∀ a b, stps n (a ^^^ b) = stps n a ^^^ stps n b := by
  induction n with
  | zero => intro a b; rfl
  | succ n ih => intro a b; simp only [stps]; rw [stp_xor, ih]
theorem stps_zero (n : Nat) : stps n 0#32 = 0#32 := by
  induction n with
  | zero => rfl
  | succ n ih => simp only [stps]; rw [stp_zero, ih]
theorem stps_eq_zero (n : Nat) : ∀ s, stps n s = 0#32 → s = 0#32 := by
  induction n with
  | zero => intro s h; exact h
  | succ n ih => intro s h; exact stp_eq_zero s (ih _ h)
theorem stps_add (n m : Nat) : ∀ s, stps (n + m) s = stps m (stps n s) := by
  induction n with
  | zero => intro s; rw [Nat.zero_add]; rfl
  | succ n ih => intro s; rw [Nat.succ_add]; exact ih _
theorem xor_eq_zero (a b : BitVec 32) (h : a ^^^ b = 0#32) : a = b := by
  have : a ^^^ b ^^^ b = 0#32 ^^^ b := by rw [h]
  rw [BitVec.xor_assoc, BitVec.xor_self, BitVec.xor_zero, BitVec.zero_xor] at this
  exact this
theorem stps_inj (n : Nat) (a b : BitVec 32) (h : stps n a = stps n b) : a = b :=
  xor_eq_zero a b (stps_eq_zero n _ (by rw [stps_xor, h, BitVec.xor_self]))
/-- What stands high enough comes down as it is. -/
theorem stps_shl (j : Nat) : ∀ w : BitVec 32, j ≤ 32 → w.toNat < 2 ^ (32 - j) → stps j (w <<< j) = w := by
  induction j with
  | zero => intro w _ _; simp [stps]
  | succ j ih =>
    intro w hj hw
    have h1 : stp (w <<< (j + 1)) = w <<< j := by
      unfold stp
      have h0 : (w <<< (j + 1)).getLsbD 0 = false := by simp
      rw [h0]
      simp only [Bool.false_eq_true, if_false, BitVec.xor_zero]
      ext i hi
      rw [← BitVec.getLsbD_eq_getElem, ← BitVec.getLsbD_eq_getElem, BitVec.getLsbD_ushiftRight, BitVec.getLsbD_shiftLeft, BitVec.getLsbD_shiftLeft]
      by_cases hij : i < j
      · have a1 : 1 + i < j + 1 := by omega
        simp [hij, a1]
      · have a1 : ¬ 1 + i < j + 1 := by omega
        have e1 : 1 + i - (j + 1) = i - j := by omega
        simp only [hij, a1, e1, hi, decide_true, Bool.true_and, decide_false, Bool.not_false]
        by_cases hb : 1 + i < 32
        · simp [hb]
        · have hlt : w.toNat < 2 ^ (i - j) := Nat.lt_of_lt_of_le hw (Nat.pow_le_pow_right (by omega) (by omega))
          have : w.getLsbD (i - j) = false := by rw [← BitVec.testBit_toNat]; exact Nat.testBit_lt_two_pow hlt
          simp [this]
    simp only [stps]
    rw [h1]
    exact ih w (by omega) (Nat.lt_of_lt_of_le hw (Nat.pow_le_pow_right (by omega) (by omega)))

/-! ### words -/
def crcW (s : BitVec 32) (l : List (BitVec 32)) : BitVec 32 := l.foldl (fun s w => stps 8 (s ^^^ w)) s
theorem crcW_nil (s : BitVec 32) : crcW s [] = s := rfl
theorem crcW_cons (s w : BitVec 32) (l : List (BitVec 32)) : crcW s (w :: l) = crcW (stps 8 (s ^^^ w)) l := rfl
theorem crcW_append (s : BitVec 32) (l m : List (BitVec 32)) : crcW s (l ++ m) = crcW (crcW s l) m := by unfold crcW; rw [List.foldl_append]
theorem crcW_xor (l : List (BitVec 32)) : ∀ s t, crcW (s ^^^ t) l = crcW s l ^^^ stps (8 * l.length) t := by
  induction l with
  | nil => intro s t; rfl
  | cons w l ih =>
    intro s t
    rw [crcW_cons, crcW_cons, show s ^^^ t ^^^ w = (s ^^^ w) ^^^ t by rw [BitVec.xor_assoc, BitVec.xor_comm t w, ← BitVec.xor_assoc], stps_xor, ih, ← stps_add]
    congr 2
    simp only [List.length_cons]; omega
/-- One word is turned. -/
theorem crcW_set (l : List (BitVec 32)) : ∀ (i : Nat) (s u : BitVec 32) (_ : i < l.length), crcW s (l.set i (l.getD i 0#32 ^^^ u)) = crcW s l ^^^ stps (8 * (l.length - i)) u := by
  induction l with
  | nil => intro i s u h; simp at h
  | cons w l ih =>
    intro i s u h
    cases i with
    | zero =>
      simp only [List.set_cons_zero, List.getD_cons_zero, crcW_cons]
      rw [← BitVec.xor_assoc, stps_xor, crcW_xor, ← stps_add]
      congr 2
      simp only [List.length_cons]; omega
    | succ i =>
      simp only [List.set_cons_succ, List.getD_cons_succ, crcW_cons]
      rw [ih i _ u (by simpa using h)]
      congr 2
      simp only [List.length_cons]; omega
theorem one_shl (j : Nat) (hj : j < 32) : stps j (1#32 <<< j) = 1#32 :=
  stps_shl j 1#32 (by omega) (by
    have : (1#32 : BitVec 32).toNat = 1 := rfl
    rw [this]
    exact Nat.one_lt_two_pow (by omega))
/-- A bit that is turned, seen from the end. -/
theorem bit_end (m k : Nat) (hk : k < 32) (hm : k ≤ m) : stps (m - k) 1#32 = stps m (1#32 <<< k) := by
  have : m = k + (m - k) := by omega
  rw [this, stps_add, one_shl k hk]
  congr 1; omega
theorem bit_set (l : List (BitVec 32)) (b : Nat) (s : BitVec 32) (hb : b / 8 < l.length) :
    crcW s (l.set (b / 8) (l.getD (b / 8) 0#32 ^^^ (1#32 <<< (b % 8)))) = crcW s l ^^^ stps (8 * l.length - b) 1#32 := by
  rw [crcW_set l (b / 8) s _ hb]
  have h8 := bit_end (8 * (l.length - b / 8)) (b % 8) (by omega) (by omega)
  rw [← h8]
  congr 2; omega

def nt (s : BitVec 32) : Int := (s.toNat : Int)
theorem nt_bounds (s : BitVec 32) : 0 ≤ nt s ∧ nt s < 4294967296 := by unfold nt; have := s.isLt; omega
theorem ofInt_nt (s : BitVec 32) : BitVec.ofInt 32 (nt s) = s := by
  unfold nt; rw [BitVec.ofInt_natCast, BitVec.ofNat_toNat, BitVec.setWidth_eq]
theorem nt_inj (s t : BitVec 32) (h : nt s = nt t) : s = t := by rw [← ofInt_nt s, h, ofInt_nt]
theorem nt_ofInt (x : Int) (h0 : 0 ≤ x) (h1 : x < 4294967296) : nt (BitVec.ofInt 32 x) = x := by
  unfold nt; rw [BitVec.toNat_ofInt]; simp; omega
theorem xor_nt (s t : BitVec 32) : Go.bits .xor .u32 (nt s) (nt t) = nt (s ^^^ t) := by
  show IntKind.u32.wrap (((BitVec.ofInt 32 (nt s)) ^^^ (BitVec.ofInt 32 (nt t))).toNat : Int) = _
  rw [ofInt_nt, ofInt_nt, IntKind.wrap_u32]
  have := (s ^^^ t).isLt
  unfold nt; omega
theorem xor_max (s : BitVec 32) : Go.bits .xor .u32 4294967295 (nt s) = nt (~~~s) := by
  have h := xor_nt (4294967295#32) s
  rw [show nt (4294967295#32) = 4294967295 from rfl] at h
  rw [h, show (4294967295#32 : BitVec 32) = BitVec.allOnes 32 from by decide, BitVec.allOnes_xor]
theorem ofInt_mod (x : Int) : BitVec.ofInt 32 (x % 4294967296) = BitVec.ofInt 32 x := by
  apply BitVec.eq_of_toInt_eq
  rw [BitVec.toInt_ofInt, BitVec.toInt_ofInt, show (4294967296 : Int) = ((2 ^ 32 : Nat) : Int) from rfl, Int.emod_bmod]
theorem xor_byte (s : BitVec 32) (x : Int) : Go.bits .xor .u32 (nt s) (x % 4294967296) = nt (s ^^^ BitVec.ofInt 32 x) := by
  have h := xor_nt s (BitVec.ofInt 32 (x % 4294967296))
  rw [nt_ofInt _ (by omega) (by omega), ofInt_mod] at h
  exact h
theorem and_one (s : BitVec 32) : Go.bits .and .u32 (nt s) 1 = if s.getLsbD 0 = true then 1 else 0 := by
  show IntKind.u32.wrap (((BitVec.ofInt 32 (nt s)) &&& (BitVec.ofInt 32 1)).toNat : Int) = _
  rw [ofInt_nt, IntKind.wrap_u32]
  have h : (s &&& BitVec.ofInt 32 1) = if s.getLsbD 0 = true then 1#32 else 0#32 := by
    ext i hi
    have h1 : (BitVec.ofInt 32 1)[i] = (1#32)[i] := rfl
    rw [BitVec.getElem_and, h1]
    cases i with
    | zero => cases h0 : s.getLsbD 0 <;> simp [← BitVec.getLsbD_eq_getElem, h0]
    | succ i => cases h0 : s.getLsbD 0 <;> simp
  rw [h]
  cases s.getLsbD 0 <;> decide
theorem half (s : BitVec 32) : nt s / (2 : Int) = nt (s >>> (1 : Nat)) := by
  unfold nt; rw [BitVec.toNat_ushiftRight, Nat.shiftRight_eq_div_pow]; omega
theorem step_eq (s : BitVec 32) : Go.bits .xor .u32 (nt s / 2) ((3988292384 * (Go.bits .and .u32 (nt s) 1)) % 4294967296) = nt (stp s) := by
  rw [and_one, half]
  unfold stp
  cases s.getLsbD 0 with
  | true =>
    simp only [if_true]
    exact xor_nt _ gen
  | false =>
    simp only [Bool.false_eq_true, if_false]
    exact xor_nt _ (0#32)

def words (l : List Int) : List (BitVec 32) := l.map (BitVec.ofInt 32)
theorem words_append (l m : List Int) : words (l ++ m) = words l ++ words m := by unfold words; rw [List.map_append]
def sumOf (c : BitVec 32) (l : List Int) : BitVec 32 := ~~~ crcW (~~~ c) (words l)
theorem sumOf_nil (c : BitVec 32) : sumOf c [] = c := by unfold sumOf; show ~~~ ~~~ c = c; exact BitVec.not_not
theorem sumOf_append (c : BitVec 32) (l m : List Int) : sumOf c (l ++ m) = sumOf (sumOf c l) m := by
  unfold sumOf; rw [words_append, crcW_append, BitVec.not_not]

end Go.Proofs.Ytghkgfeamijefaa.B
