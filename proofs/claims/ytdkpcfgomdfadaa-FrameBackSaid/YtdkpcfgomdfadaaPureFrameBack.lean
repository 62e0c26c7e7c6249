/- For any records, of which the short ones are put, and any cut: what is read back of the cut bytes are the records that are whole; draylaw21.FrameBack answers true; no condition. -/
import Derived.Test.YtdkpcfgomdfadaaPFrameBackx4
import Derived.Test.YtdkpcfgomdfadaaWWords
import Derived.Laws.BitsLemmas
namespace Go.Proofs.Ytdkpcfgomdfadaa.Pure
open Go.RowKit Go.Proofs.Ytdkpcfgomdfadaa.PFrameBack Go.Proofs.YtdkpcfgomdfadaaW.PrintWords Go.Proofs.YtdkpcfgomdfadaaW.PrintLast
set_option linter.unusedVariables false
set_option linter.unusedSimpArgs false

theorem runs1 : ∃ k, draylaw21_FrameRuns.f k = some true := ⟨200, by decide +kernel⟩
theorem runs : ∃ K, ∀ k, K ≤ k → draylaw21_FrameRuns.f k = some true := by
  obtain ⟨K, hK⟩ := runs1
  exact ⟨K, fun k hk => at_rounds draylaw21_FrameRuns.mono hk hK⟩
/-! ### The sum of bits, in plain Lean: a shift register of 32 bits -/
def gen : BitVec 32 := 3988292384#32
def stp (s : BitVec 32) : BitVec 32 := (s >>> 1) ^^^ (if s.getLsbD 0 = true then gen else 0#32)
def stps : Nat → BitVec 32 → BitVec 32
  | 0, s => s
  | n + 1, s => stps n (stp s)
theorem stp_xor (a b : BitVec 32) : stp (a ^^^ b) = stp a ^^^ stp b := by
  unfold stp
  have h : (a ^^^ b).getLsbD 0 = (a.getLsbD 0 ^^ b.getLsbD 0) := BitVec.getLsbD_xor
  rw [h]
  have hs : (a ^^^ b) >>> 1 = (a >>> 1) ^^^ (b >>> 1) := by
    ext i hi
    simp
  rw [hs]
  generalize a >>> 1 = x
  generalize b >>> 1 = y
  cases a.getLsbD 0 <;> cases b.getLsbD 0
  · simp
  · simp only [Bool.false_bne, Bool.false_eq_true, if_false, if_true, Bool.xor_true, Bool.not_false, BitVec.xor_zero, Bool.false_xor]; ac_rfl
  · simp only [Bool.false_eq_true, if_false, if_true, Bool.xor_false, BitVec.xor_zero]; ac_rfl
  · simp only [Bool.xor_self, Bool.false_eq_true, if_false, if_true]
    rw [show x ^^^ gen ^^^ (y ^^^ gen) = x ^^^ y ^^^ (gen ^^^ gen) by ac_rfl, BitVec.xor_self]
theorem stp_zero : stp 0#32 = 0#32 := by decide
theorem stp_eq_zero (s : BitVec 32) (h : stp s = 0#32) : s = 0#32 := by
  unfold stp at h
  cases h0 : s.getLsbD 0 with
  | true =>
    rw [h0] at h
    simp only [if_true] at h
    have h31 : ((s >>> 1) ^^^ gen).getLsbD 31 = false := by rw [h]; rfl
    rw [BitVec.getLsbD_xor, BitVec.getLsbD_ushiftRight] at h31
    have hg : gen.getLsbD 31 = true := by decide
    have hz : s.getLsbD (1 + 31) = false := BitVec.getLsbD_of_ge _ _ (by omega)
    rw [hg, hz] at h31
    cases h31
  | false =>
    rw [h0] at h
    simp only [Bool.false_eq_true, if_false, BitVec.xor_zero] at h
    ext i hi
    rw [BitVec.getElem_zero, ← BitVec.getLsbD_eq_getElem]
    cases i with
    | zero => exact h0
    | succ i =>
      have : (s >>> 1).getLsbD i = false := by rw [h]; simp
      rw [BitVec.getLsbD_ushiftRight, Nat.add_comm] at this
      exact this
theorem stps_xor (n : Nat) : ∀ a b, stps n (a ^^^ b) = stps n a ^^^ stps n b := by
  induction n with
  | zero => intro a b; rfl
  | succ n ih => intro a b; simp only [stps]; rw [stp_xor, ih]
theorem stps_zero (n : Nat) : stps n 0#32 = 0#32 := by
  induction n with
  | zero => rfl
  | succ n ih => simp only [stps]; rw [stp_zero, ih]
theorem stps_eq_zero (n : Nat) : ∀ s, stps n s = 0#32 → s = 0#32 := by
  induction n with
  | zero => intro s h; exact h
  | succ n ih => intro s h; exact stp_eq_zero s (ih _ h)
theorem stps_add (n m : Nat) : ∀ s, stps (n + m) s = stps m (stps n s) := by
  induction n with
  | zero => intro s; rw [Nat.zero_add]; rfl
  | succ n ih => intro s; rw [Nat.succ_add]; exact ih _
theorem xor_eq_zero (a b : BitVec 32) (h : a ^^^ b = 0#32) : a = b := by
  have : a ^^^ b ^^^ b = 0#32 ^^^ b := by rw [h]
  rw [BitVec.xor_assoc, BitVec.xor_self, BitVec.xor_zero, BitVec.zero_xor] at this
  exact this
theorem stps_inj (n : Nat) (a b : BitVec 32) (h : stps n a = stps n b) : a = b :=
  xor_eq_zero a b (stps_eq_zero n _ (by rw [stps_xor, h, BitVec.xor_self]))
/-- What stands high enough comes down as it is. -/
theorem stps_shl (j : Nat) : ∀ w : BitVec 32, j ≤ 32 → w.toNat < 2 ^ (32 - j) → stps j (w <<< j) = w := by
  induction j with
  | zero => intro w _ _; simp [stps]
  | succ j ih =>
    intro w hj hw
    have h1 : stp (w <<< (j + 1)) = w <<< j := by
      unfold stp
      have h0 : (w <<< (j + 1)).getLsbD 0 = false := by simp
      rw [h0]
      simp only [Bool.false_eq_true, if_false, BitVec.xor_zero]
      ext i hi
      rw [← BitVec.getLsbD_eq_getElem, ← BitVec.getLsbD_eq_getElem, BitVec.getLsbD_ushiftRight, BitVec.getLsbD_shiftLeft, BitVec.getLsbD_shiftLeft]
      by_cases hij : i < j
      · have a1 : 1 + i < j + 1 := by omega
        simp [hij, a1]
      · have a1 : ¬ 1 + i < j + 1 := by omega
        have e1 : 1 + i - (j + 1) = i - j := by omega
        simp only [hij, a1, e1, hi, decide_true, Bool.true_and, decide_false, Bool.not_false]
        by_cases hb : 1 + i < 32
        · simp [hb]
        · have hlt : w.toNat < 2 ^ (i - j) := Nat.lt_of_lt_of_le hw (Nat.pow_le_pow_right (by omega) (by omega))
          have : w.getLsbD (i - j) = false := by rw [← BitVec.testBit_toNat]; exact Nat.testBit_lt_two_pow hlt
          simp [this]
    simp only [stps]
    rw [h1]
    exact ih w (by omega) (Nat.lt_of_lt_of_le hw (Nat.pow_le_pow_right (by omega) (by omega)))

/-! ### words -/
def crcW (s : BitVec 32) (l : List (BitVec 32)) : BitVec 32 := l.foldl (fun s w => stps 8 (s ^^^ w)) s
theorem crcW_nil (s : BitVec 32) : crcW s [] = s := rfl
theorem crcW_cons (s w : BitVec 32) (l : List (BitVec 32)) : crcW s (w :: l) = crcW (stps 8 (s ^^^ w)) l := rfl
theorem crcW_append (s : BitVec 32) (l m : List (BitVec 32)) : crcW s (l ++ m) = crcW (crcW s l) m := by unfold crcW; rw [List.foldl_append]
theorem crcW_xor (l : List (BitVec 32)) : ∀ s t, crcW (s ^^^ t) l = crcW s l ^^^ stps (8 * l.length) t := by
  induction l with
  | nil => intro s t; rfl
  | cons w l ih =>
    intro s t
    rw [crcW_cons, crcW_cons, show s ^^^ t ^^^ w = (s ^^^ w) ^^^ t by rw [BitVec.xor_assoc, BitVec.xor_comm t w, ← BitVec.xor_assoc], stps_xor, ih, ← stps_add]
    congr 2
    simp only [List.length_cons]; omega
/-- One word is turned. -/
theorem crcW_set (l : List (BitVec 32)) : ∀ (i : Nat) (s u : BitVec 32) (_ : i < l.length), crcW s (l.set i (l.getD i 0#32 ^^^ u)) = crcW s l ^^^ stps (8 * (l.length - i)) u := by
  induction l with
  | nil => intro i s u h; simp at h
  | cons w l ih =>
    intro i s u h
    cases i with
    | zero =>
      simp only [List.set_cons_zero, List.getD_cons_zero, crcW_cons]
      rw [← BitVec.xor_assoc, stps_xor, crcW_xor, ← stps_add]
      congr 2
      simp only [List.length_cons]; omega
    | succ i =>
      simp only [List.set_cons_succ, List.getD_cons_succ, crcW_cons]
      rw [ih i _ u (by simpa using h)]
      congr 2
      simp only [List.length_cons]; omega
theorem one_shl (j : Nat) (hj : j < 32) : stps j (1#32 <<< j) = 1#32 :=
  stps_shl j 1#32 (by omega) (by
    have : (1#32 : BitVec 32).toNat = 1 := rfl
    rw [this]
    exact Nat.one_lt_two_pow (by omega))
/-- A bit that is turned, seen from the end. -/
theorem bit_end (m k : Nat) (hk : k < 32) (hm : k ≤ m) : stps (m - k) 1#32 = stps m (1#32 <<< k) := by
  have : m = k + (m - k) := by omega
  rw [this, stps_add, one_shl k hk]
  congr 1; omega
theorem bit_set (l : List (BitVec 32)) (b : Nat) (s : BitVec 32) (hb : b / 8 < l.length) :
    crcW s (l.set (b / 8) (l.getD (b / 8) 0#32 ^^^ (1#32 <<< (b % 8)))) = crcW s l ^^^ stps (8 * l.length - b) 1#32 := by
  rw [crcW_set l (b / 8) s _ hb]
  have h8 := bit_end (8 * (l.length - b / 8)) (b % 8) (by omega) (by omega)
  rw [← h8]
  congr 2; omega
/-! ### The printed functions come to the shift register -/
theorem wrap_small (a : Int) (h : -9223372036854775808 ≤ a ∧ a ≤ 9223372036854775807) : wrap64 a = a := by unfold wrap64; omega
theorem rd_drop (l : List Int) (i : Int) (h0 : 0 ≤ i) (h1 : i < (l.length : Int)) : l.drop i.toNat = rd l i :: l.drop (i + 1).toNat := by
  have hi : i.toNat < l.length := by omega
  rw [List.drop_eq_getElem_cons hi, show (i + 1).toNat = i.toNat + 1 by omega]
  congr 1
  unfold rd; rw [List.getD_eq_getElem?_getD, List.getElem?_eq_getElem hi]; rfl
def nt (s : BitVec 32) : Int := (s.toNat : Int)
theorem nt_bounds (s : BitVec 32) : 0 ≤ nt s ∧ nt s < 4294967296 := by unfold nt; have := s.isLt; omega
theorem ofInt_nt (s : BitVec 32) : BitVec.ofInt 32 (nt s) = s := by
  unfold nt; rw [BitVec.ofInt_natCast, BitVec.ofNat_toNat, BitVec.setWidth_eq]
theorem nt_inj (s t : BitVec 32) (h : nt s = nt t) : s = t := by rw [← ofInt_nt s, h, ofInt_nt]
theorem nt_ofInt (x : Int) (h0 : 0 ≤ x) (h1 : x < 4294967296) : nt (BitVec.ofInt 32 x) = x := by
  unfold nt; rw [BitVec.toNat_ofInt]; simp; omega
theorem xor_nt (s t : BitVec 32) : Go.bits .xor .u32 (nt s) (nt t) = nt (s ^^^ t) := by
  show IntKind.u32.wrap (((BitVec.ofInt 32 (nt s)) ^^^ (BitVec.ofInt 32 (nt t))).toNat : Int) = _
  rw [ofInt_nt, ofInt_nt, IntKind.wrap_u32]
  have := (s ^^^ t).isLt
  unfold nt; omega
theorem xor_max (s : BitVec 32) : Go.bits .xor .u32 4294967295 (nt s) = nt (~~~s) := by
  have h := xor_nt (4294967295#32) s
  rw [show nt (4294967295#32) = 4294967295 from rfl] at h
  rw [h, show (4294967295#32 : BitVec 32) = BitVec.allOnes 32 from by decide, BitVec.allOnes_xor]
theorem ofInt_mod (x : Int) : BitVec.ofInt 32 (x % 4294967296) = BitVec.ofInt 32 x := by
  apply BitVec.eq_of_toInt_eq
  rw [BitVec.toInt_ofInt, BitVec.toInt_ofInt, show (4294967296 : Int) = ((2 ^ 32 : Nat) : Int) from rfl, Int.emod_bmod]
theorem xor_byte (s : BitVec 32) (x : Int) : Go.bits .xor .u32 (nt s) (x % 4294967296) = nt (s ^^^ BitVec.ofInt 32 x) := by
  have h := xor_nt s (BitVec.ofInt 32 (x % 4294967296))
  rw [nt_ofInt _ (by omega) (by omega), ofInt_mod] at h
  exact h
theorem and_one (s : BitVec 32) : Go.bits .and .u32 (nt s) 1 = if s.getLsbD 0 = true then 1 else 0 := by
  show IntKind.u32.wrap (((BitVec.ofInt 32 (nt s)) &&& (BitVec.ofInt 32 1)).toNat : Int) = _
  rw [ofInt_nt, IntKind.wrap_u32]
  have h : (s &&& BitVec.ofInt 32 1) = if s.getLsbD 0 = true then 1#32 else 0#32 := by
    ext i hi
    have h1 : (BitVec.ofInt 32 1)[i] = (1#32)[i] := rfl
    rw [BitVec.getElem_and, h1]
    cases i with
    | zero => cases h0 : s.getLsbD 0 <;> simp [← BitVec.getLsbD_eq_getElem, h0]
    | succ i => cases h0 : s.getLsbD 0 <;> simp
  rw [h]
  cases s.getLsbD 0 <;> decide
theorem half (s : BitVec 32) : nt s / (2 : Int) = nt (s >>> (1 : Nat)) := by
  unfold nt; rw [BitVec.toNat_ushiftRight, Nat.shiftRight_eq_div_pow]; omega
theorem step_eq (s : BitVec 32) : Go.bits .xor .u32 (nt s / 2) ((3988292384 * (Go.bits .and .u32 (nt s) 1)) % 4294967296) = nt (stp s) := by
  rw [and_one, half]
  unfold stp
  cases s.getLsbD 0 with
  | true =>
    simp only [if_true]
    exact xor_nt _ gen
  | false =>
    simp only [Bool.false_eq_true, if_false]
    exact xor_nt _ (0#32)

def words (l : List Int) : List (BitVec 32) := l.map (BitVec.ofInt 32)
theorem words_append (l m : List Int) : words (l ++ m) = words l ++ words m := by unfold words; rw [List.map_append]
def sumOf (c : BitVec 32) (l : List Int) : BitVec 32 := ~~~ crcW (~~~ c) (words l)
theorem sumOf_nil (c : BitVec 32) : sumOf c [] = c := by unfold sumOf; show ~~~ ~~~ c = c; exact BitVec.not_not
theorem sumOf_append (c : BitVec 32) (l m : List Int) : sumOf c (l ++ m) = sumOf (sumOf c l) m := by
  unfold sumOf; rw [words_append, crcW_append, BitVec.not_not]

theorem add_inner (l : List Int) (n i : Int) (d : Nat) : ∀ (k : Nat) (s : BitVec 32), d ≤ 8 → sum_Add.l1 (k + d + 1) (nt s) l n i (8 - (d : Int)) = sum_Add.l0 k (nt (stps d s)) l n (wrap64 (i + 1)) := by
  induction d with
  | zero => intro k s _; simp only [sum_Add.l1]; rw [if_neg (by omega)]; rfl
  | succ d ih =>
    intro k s hd
    rw [show k + (d + 1) + 1 = (k + d + 1) + 1 by omega]
    rw [sum_Add.l1]
    rw [if_pos (by omega), step_eq, wrap_small _ (by omega), show (8 : Int) - ((d + 1 : Nat) : Int) + 1 = 8 - (d : Int) by omega, ih k _ (by omega)]
    rfl
theorem add_loop (l : List Int) (hl : l.length ≤ 1152921504606846976) (d : Nat) : ∀ (k : Nat) (s : BitVec 32) (i : Int), 0 ≤ i → i ≤ (l.length : Int) → (l.length : Int) - i = d → 10 * d < k →
    sum_Add.l0 k (nt s) l (l.length : Int) i = some (nt (~~~ crcW s (words (l.drop i.toNat)))) := by
  induction d with
  | zero =>
    intro k s i h0 h1 hd hk
    obtain ⟨k, rfl⟩ : ∃ m, k = m + 1 := ⟨k - 1, by omega⟩
    simp only [sum_Add.l0]; rw [if_neg (by omega), List.drop_of_length_le (by omega), xor_max]; rfl
  | succ d ih =>
    intro k s i h0 h1 hd hk
    obtain ⟨k, rfl⟩ : ∃ m, k = m + 10 := ⟨k - 10, by omega⟩
    have hlt : i < (l.length : Int) := by omega
    rw [show k + 10 = (k + 8 + 1) + 1 by omega, sum_Add.l0, if_pos hlt, if_pos h0, if_pos hlt, xor_byte]
    have hin := add_inner l (l.length : Int) i 8 k (s ^^^ BitVec.ofInt 32 (rd l i)) (by omega)
    rw [show (8 : Int) - ((8 : Nat) : Int) = 0 by omega] at hin
    rw [hin, wrap_small (i + 1) (by omega), ih k _ (i + 1) (by omega) (by omega) (by omega) (by omega), rd_drop l i h0 hlt]
    rfl
theorem add_eq (c : BitVec 32) (l : List Int) (hl : l.length ≤ 1152921504606846976) (k : Nat) (hk : 10 * l.length < k) : sum_Add.f k (nt c) l = some (nt (sumOf c l)) := by
  unfold sum_Add.f
  rw [xor_max, add_loop l hl l.length k _ 0 (by omega) (by omega) (by omega) hk]; rfl
theorem rdL_drop (l : List (List Int)) (i : Int) (h0 : 0 ≤ i) (h1 : i < (l.length : Int)) : l.drop i.toNat = rd_L1 l i :: l.drop (i + 1).toNat := by
  have hi : i.toNat < l.length := by omega
  rw [List.drop_eq_getElem_cons hi, show (i + 1).toNat = i.toNat + 1 by omega]
  congr 1
  unfold rd_L1; rw [List.getD_eq_getElem?_getD, List.getElem?_eq_getElem hi]; rfl
theorem of_loop (ls : List (List Int)) (hl : ls.length ≤ 1152921504606846976) (K : Nat) (hK : ∀ l ∈ ls, l.length ≤ 1152921504606846976 ∧ 10 * l.length < K) (d : Nat) : ∀ (k : Nat) (c : BitVec 32) (i : Int), 0 ≤ i → i ≤ (ls.length : Int) → (ls.length : Int) - i = d → K + d < k →
    sum_Of.l0 k (nt c) ls (ls.length : Int) i = some (nt (sumOf c (ls.drop i.toNat).flatten)) := by
  induction d with
  | zero =>
    intro k s i h0 h1 hd hk
    obtain ⟨k, rfl⟩ : ∃ m, k = m + 1 := ⟨k - 1, by omega⟩
    simp only [sum_Of.l0]; rw [if_neg (by omega), List.drop_of_length_le (by omega), List.flatten_nil, sumOf_nil]
  | succ d ih =>
    intro k c i h0 h1 hd hk
    obtain ⟨k, rfl⟩ : ∃ m, k = m + 1 := ⟨k - 1, by omega⟩
    have hlt : i < (ls.length : Int) := by omega
    have hdr := rdL_drop ls i h0 hlt
    have hmem : rd_L1 ls i ∈ ls := List.mem_of_mem_drop (by rw [hdr]; exact List.mem_cons_self)
    simp only [sum_Of.l0]; rw [if_pos hlt, if_pos h0, if_pos hlt, add_eq c _ (hK _ hmem).1 k (by have := (hK _ hmem).2; omega)]
    simp only [Option.bind_some]
    rw [wrap_small (i + 1) (by omega), ih k _ (i + 1) (by omega) (by omega) (by omega) (by omega), hdr, List.flatten_cons, sumOf_append]
theorem of_eq (ls : List (List Int)) (hl : ls.length ≤ 1152921504606846976) (K k : Nat) (hK : ∀ l ∈ ls, l.length ≤ 1152921504606846976 ∧ 10 * l.length < K) (hk : K + ls.length < k) : sum_Of.f k ls = some (nt (sumOf 0#32 ls.flatten)) := by
  unfold sum_Of.f
  have h := of_loop ls hl K hK ls.length k 0#32 0 (by omega) (by omega) (by omega) hk
  exact h
theorem of_one (l : List Int) (hl : l.length ≤ 1152921504606846976) (k : Nat) (hk : 10 * l.length + 2 < k) : sum_Of.f k [l] = some (nt (sumOf 0#32 l)) := by
  rw [of_eq [l] (by simp) (10 * l.length + 1) k (by simp only [List.mem_singleton]; rintro _ rfl; omega) (by simp only [List.length_cons, List.length_nil]; omega)]
  simp

/-- The sum's four bytes, the lowest first. -/
def le4 (c : BitVec 32) : List Int := [nt c % 256, nt c / 256 % 256, nt c / 65536 % 256, nt c / 16777216 % 256]
theorem ite_some {α : Type} {c : Prop} [Decidable c] (h : c) (a b : Option α) : (if c then a else b) = a := if_pos h
theorem or_nt (s t : BitVec 32) : Go.bits .or .u32 (nt s) (nt t) = nt (s ||| t) := by
  show IntKind.u32.wrap (((BitVec.ofInt 32 (nt s)) ||| (BitVec.ofInt 32 (nt t))).toNat : Int) = _
  rw [ofInt_nt, ofInt_nt, IntKind.wrap_u32]
  have := (s ||| t).isLt
  unfold nt; omega
theorem or_add (a b : Nat) (i : Nat) (ha : a < 2 ^ i) (hs : a + b * 2 ^ i < 4294967296) : Go.bits .or .u32 (a : Int) ((b * 2 ^ i : Nat) : Int) = ((a + b * 2 ^ i : Nat) : Int) := by
  have h1 : nt (BitVec.ofNat 32 a) = (a : Int) := by unfold nt; rw [BitVec.toNat_ofNat, Nat.mod_eq_of_lt (by omega)]
  have h2 : nt (BitVec.ofNat 32 (b * 2 ^ i)) = ((b * 2 ^ i : Nat) : Int) := by unfold nt; rw [BitVec.toNat_ofNat, Nat.mod_eq_of_lt (by omega)]
  rw [← h1, ← h2, or_nt]
  unfold nt
  rw [BitVec.toNat_or, BitVec.toNat_ofNat, BitVec.toNat_ofNat, Nat.mod_eq_of_lt (show a < 2 ^ 32 by omega), Nat.mod_eq_of_lt (show b * 2 ^ i < 2 ^ 32 by omega)]
  have := Nat.two_pow_add_eq_or_of_lt ha b
  rw [Nat.mul_comm] at this
  rw [Nat.or_comm, ← this, Nat.add_comm]
def val4 (a b c d : Int) : Int := a + 256 * b + 65536 * c + 16777216 * d
theorem or_chain (a b c d : Int) (ha : 0 ≤ a ∧ a < 256) (hb : 0 ≤ b ∧ b < 256) (hc : 0 ≤ c ∧ c < 256) (hd : 0 ≤ d ∧ d < 256) :
    Go.bits .or .u32 (Go.bits .or .u32 (Go.bits .or .u32 (a % 4294967296) (((b % 4294967296) * 256) % 4294967296)) (((c % 4294967296) * 65536) % 4294967296)) (((d % 4294967296) * 16777216) % 4294967296) = val4 a b c d := by
  obtain ⟨a, rfl⟩ := Int.eq_ofNat_of_zero_le ha.1
  obtain ⟨b, rfl⟩ := Int.eq_ofNat_of_zero_le hb.1
  obtain ⟨c, rfl⟩ := Int.eq_ofNat_of_zero_le hc.1
  obtain ⟨d, rfl⟩ := Int.eq_ofNat_of_zero_le hd.1
  have e0 : ((a : Int) % 4294967296) = (a : Int) := by omega
  have e1 : ((b : Int) % 4294967296 * 256) % 4294967296 = ((b * 2 ^ 8 : Nat) : Int) := by omega
  have e2 : ((c : Int) % 4294967296 * 65536) % 4294967296 = ((c * 2 ^ 16 : Nat) : Int) := by omega
  have e3 : ((d : Int) % 4294967296 * 16777216) % 4294967296 = ((d * 2 ^ 24 : Nat) : Int) := by omega
  rw [e0, e1, e2, e3, or_add a b 8 (by omega) (by omega), or_add (a + b * 2 ^ 8) c 16 (by omega) (by omega), or_add (a + b * 2 ^ 8 + c * 2 ^ 16) d 24 (by omega) (by omega)]
  unfold val4; omega
theorem u8_bounds (c : Int) (h : (Lit.int .u8 c).wf = true) : 0 ≤ c ∧ c < 256 := by
  simp only [Lit.wf, IntKind.min, IntKind.max, IntKind.signed, IntKind.bits, Bool.and_eq_true, decide_eq_true_eq] at h
  simp at h; omega
theorem rd_byte (l : List Int) (hw : ∀ x ∈ l, 0 ≤ x ∧ x < 256) (i : Int) : 0 ≤ rd l i ∧ rd l i < 256 := by
  unfold rd
  rw [List.getD_eq_getElem?_getD]
  rcases h : l[i.toNat]? with _ | x
  · simp
  · exact hw x (List.mem_of_getElem? h)
theorem same_loop (l m : List Int) (hl : l.length ≤ 1152921504606846976) (he : l.length = m.length) (d : Nat) : ∀ (k : Nat) (i : Int), 0 ≤ i → i ≤ (l.length : Int) → (l.length : Int) - i = d → d < k →
    draybook_Same_byte.l0 k l m i = some (decide (l.drop i.toNat = m.drop i.toNat)) := by
  induction d with
  | zero =>
    intro k i h0 h1 hd hk
    obtain ⟨k, rfl⟩ : ∃ q, k = q + 1 := ⟨k - 1, by omega⟩
    simp only [draybook_Same_byte.l0]; rw [if_neg (by omega), List.drop_of_length_le (by omega), List.drop_of_length_le (by omega)]; rfl
  | succ d ih =>
    intro k i h0 h1 hd hk
    obtain ⟨k, rfl⟩ : ∃ q, k = q + 1 := ⟨k - 1, by omega⟩
    have hlt : i < (l.length : Int) := by omega
    simp only [draybook_Same_byte.l0]; rw [if_pos hlt, if_pos h0, if_pos (by omega), rd_drop l i h0 hlt, rd_drop m i h0 (by omega)]
    by_cases g : rd l i = rd m i
    · rw [if_pos g, wrap_small (i + 1) (by omega), ih k (i + 1) (by omega) (by omega) (by omega) (by omega), g]
      congr 1
      simp
    · rw [if_neg g]; congr 1; symm; rw [decide_eq_false_iff_not]; intro h; injection h with h; exact g h
theorem same_eq (l m : List Int) (hl : l.length ≤ 1152921504606846976) (k : Nat) (hk : l.length < k) : draybook_Same_byte.f k l m = some (decide (l = m)) := by
  unfold draybook_Same_byte.f
  by_cases he : l.length = m.length
  · rw [if_pos (by omega), same_loop l m hl he l.length k 0 (by omega) (by omega) (by omega) hk]; rfl
  · rw [if_neg (by omega)]; congr 1; symm; rw [decide_eq_false_iff_not]; intro h; exact he (by rw [h])
theorem le4_val (a b c d : Int) (ha : 0 ≤ a ∧ a < 256) (hb : 0 ≤ b ∧ b < 256) (hc : 0 ≤ c ∧ c < 256) (hd : 0 ≤ d ∧ d < 256) : le4 (BitVec.ofInt 32 (val4 a b c d)) = [a, b, c, d] := by
  unfold le4
  rw [nt_ofInt _ (by unfold val4; omega) (by unfold val4; omega)]
  unfold val4
  rw [show (a + 256 * b + 65536 * c + 16777216 * d) % 256 = a by omega, show (a + 256 * b + 65536 * c + 16777216 * d) / 256 % 256 = b by omega, show (a + 256 * b + 65536 * c + 16777216 * d) / 65536 % 256 = c by omega, show (a + 256 * b + 65536 * c + 16777216 * d) / 16777216 % 256 = d by omega]
/-! ### Frames -/
theorem four_eq (c : BitVec 32) : frame_four.f (nt c) = some (le4 c) := rfl
def hdp (p : List Int) : List Int := le4 (BitVec.ofInt 32 (p.length : Int))
def frameS (p : List Int) : List Int := hdp p ++ le4 (sumOf 0#32 (hdp p ++ p)) ++ p
theorem le4_len (c : BitVec 32) : (le4 c).length = 4 := rfl
theorem hdp_len (p : List Int) : (hdp p).length = 4 := rfl
theorem frameS_len (p : List Int) : (frameS p).length = 8 + p.length := by
  unfold frameS; rw [List.length_append, List.length_append, hdp_len, le4_len]
theorem le4_byte (c : BitVec 32) : ∀ x ∈ le4 c, 0 ≤ x ∧ x < 256 := by
  intro x hx
  have h := nt_bounds c
  unfold le4 at hx
  simp only [List.mem_cons, List.not_mem_nil, or_false] at hx
  rcases hx with rfl | rfl | rfl | rfl <;> omega
theorem frameS_bytes (p : List Int) (hp : ∀ x ∈ p, 0 ≤ x ∧ x < 256) : ∀ x ∈ frameS p, 0 ≤ x ∧ x < 256 := by
  intro x hx
  unfold frameS at hx
  rcases List.mem_append.1 hx with h | h
  · rcases List.mem_append.1 h with h | h
    · exact le4_byte _ x h
    · exact le4_byte _ x h
  · exact hp x h
theorem of_two (a b : List Int) (ha : a.length ≤ 1000000) (hb : b.length ≤ 1000000) (k : Nat) (hk : 10 * (a.length + b.length) + 4 < k) : sum_Of.f k [a, b] = some (nt (sumOf 0#32 (a ++ b))) := by
  rw [of_eq [a, b] (by simp) (10 * (a.length + b.length) + 1) k (by
    intro l hl
    simp only [List.mem_cons, List.not_mem_nil, or_false] at hl
    rcases hl with rfl | rfl <;> constructor <;> omega) (by simp only [List.length_cons, List.length_nil]; omega)]
  simp
theorem put_eq (b p : List Int) (hp : p.length ≤ 16384) (hb : b.length + 8 + p.length < 140737488355328) (k : Nat) (hk : 10 * (4 + p.length) + 4 < k) : frame_Put.f k b p = some (b ++ frameS p) := by
  have hc : nt (BitVec.ofInt 32 (p.length : Int)) = (p.length : Int) % 4294967296 := by rw [nt_ofInt _ (by omega) (by omega)]; omega
  unfold frame_Put.f
  rw [wrap_small ((b.length : Int) + 8) (by omega), wrap_small _ (by omega), if_pos (by omega), if_pos (by omega)]
  try simp only [Option.bind_some, List.nil_append, List.length_nil, Nat.zero_add]
  rw [if_pos (by omega)]
  try simp only [Option.bind_some]
  rw [if_neg (by omega), ← hc, four_eq]
  try simp only [Option.bind_some]
  rw [if_pos (by rw [le4_len]; omega)]
  try simp only [Option.bind_some]
  rw [of_two _ _ (by rw [le4_len]; omega) (by omega) k (by rw [le4_len]; omega)]
  try simp only [Option.bind_some]
  rw [four_eq]
  try simp only [Option.bind_some]
  rw [if_pos (by simp only [List.length_append, le4_len]; omega)]
  try simp only [Option.bind_some]
  rw [if_pos (by simp only [List.length_append, le4_len]; omega)]
  congr 1
  unfold frameS hdp
  simp only [List.append_assoc]
def hn (r : List Int) : Int := val4 (rd r 0) (rd r 1) (rd r 2) (rd r 3)
def bodyOf (r : List Int) : List Int := (r.take (8 + (hn r).toNat)).drop 8
def parse1 (r : List Int) : Option (List Int) :=
  if r.length < 8 then none else if hn r > 16384 then none else if (r.length : Int) - 8 < hn r then none else
  if nt (sumOf 0#32 (r.take 4 ++ bodyOf r)) = val4 (rd r 4) (rd r 5) (rd r 6) (rd r 7) then some (bodyOf r) else none
theorem number_eq (l : List Int) (hw : ∀ x ∈ l, 0 ≤ x ∧ x < 256) (h4 : 4 ≤ l.length) : frame_number.f l = some (hn l) := by
  unfold frame_number.f hn
  rw [if_pos (by omega), if_pos (by omega), if_pos (by omega), if_pos (by omega), or_chain _ _ _ _ (rd_byte l hw _) (rd_byte l hw _) (rd_byte l hw _) (rd_byte l hw _)]
theorem hn_drop (r : List Int) : hn (r.drop 4) = val4 (rd r 4) (rd r 5) (rd r 6) (rd r 7) := by
  unfold hn rd
  simp only [List.getD_eq_getElem?_getD, List.getElem?_drop]
  rfl
theorem hn_bounds (r : List Int) (hw : ∀ x ∈ r, 0 ≤ x ∧ x < 256) : 0 ≤ hn r ∧ hn r < 4294967296 := by
  have b0 := rd_byte r hw 0
  have b1 := rd_byte r hw 1
  have b2 := rd_byte r hw 2
  have b3 := rd_byte r hw 3
  unfold hn val4; omega
theorem body_len (r : List Int) (h8 : ¬ r.length < 8) (h0 : 0 ≤ hn r) (h : ¬ (r.length : Int) - 8 < hn r) : (bodyOf r).length = (hn r).toNat := by
  unfold bodyOf; rw [List.length_drop, List.length_take]; omega
theorem next_eq (b : List Int) (hw : ∀ x ∈ b, 0 ≤ x ∧ x < 256) (hl : b.length ≤ 140737488355000) (at_ : Int) (h0 : 0 ≤ at_) (h1 : at_ ≤ (b.length : Int)) (k : Nat) (hk : 200000 < k) :
    ∃ e : Int, e ≠ 0 ∧ frame_Next.f k b at_ = some (match parse1 (b.drop at_.toNat) with | some p => (p, at_ + 8 + (p.length : Int), 0) | none => ([], 0, e)) := by
  obtain ⟨k, rfl⟩ : ∃ q, k = q + 1 := ⟨k - 1, by omega⟩
  unfold frame_Next.f
  rw [if_neg (by omega), decide_eq_false (by omega)]
  simp only [frame_Next.j0]
  rw [if_neg (by decide)]
  by_cases he : at_ = (b.length : Int)
  · rw [if_pos he, List.drop_of_length_le (by omega)]
    exact ⟨8, by decide, rfl⟩
  rw [if_neg he, if_pos h0, if_pos h1]
  try simp only [Option.bind_some]
  have hrw : ∀ x ∈ b.drop at_.toNat, 0 ≤ x ∧ x < 256 := fun x hx => hw x (List.mem_of_mem_drop hx)
  have hrl : (b.drop at_.toNat).length = b.length - at_.toNat := List.length_drop
  generalize b.drop at_.toNat = r at hrw hrl
  unfold parse1
  by_cases h8 : r.length < 8
  · rw [if_pos (by omega), if_pos h8]; exact ⟨3, by decide, rfl⟩
  rw [if_neg (by omega), if_neg h8, number_eq r hrw (by omega)]
  try simp only [Option.bind_some]
  have hb := hn_bounds r hrw
  by_cases h16 : hn r > 16384
  · rw [if_pos h16, if_pos h16]; exact ⟨2, by decide, rfl⟩
  rw [if_neg h16, if_neg h16, wrap_small (hn r) (by omega), wrap_small ((r.length : Int) - 8) (by omega)]
  by_cases hs : (r.length : Int) - 8 < hn r
  · rw [if_pos hs, if_pos hs]; exact ⟨3, by decide, rfl⟩
  rw [if_neg hs, if_neg hs, wrap_small (8 + hn r) (by omega), if_pos (by omega), if_pos (by omega)]
  try simp only [Option.bind_some]
  have hbl := body_len r h8 hb.1 hs
  rw [show (8 + hn r).toNat = 8 + (hn r).toNat by omega]
  rw [show (r.take (8 + (hn r).toNat)).drop 8 = bodyOf r from rfl, if_pos (by omega)]
  rw [of_two _ _ (by rw [List.length_take]; omega) (by omega) k (by rw [List.length_take]; omega)]
  try simp only [Option.bind_some]
  rw [number_eq (r.drop 4) (fun x hx => hrw x (List.mem_of_mem_drop hx)) (by rw [List.length_drop]; omega), hn_drop]
  try simp only [Option.bind_some, List.nil_append, List.length_nil, Nat.zero_add]
  by_cases hq : nt (sumOf 0#32 (r.take 4 ++ bodyOf r)) = val4 (rd r 4) (rd r 5) (rd r 6) (rd r 7)
  · rw [if_pos hq, if_pos hq, if_pos (by omega), wrap_small (at_ + 8) (by omega), wrap_small _ (by omega)]
    refine ⟨8, by decide, ?_⟩
    show _ = some (bodyOf r, at_ + 8 + ((bodyOf r).length : Int), 0)
    rw [hbl, Int.toNat_of_nonneg hb.1]
  · rw [if_neg hq, if_neg hq]; exact ⟨6, by decide, rfl⟩
theorem four_take (r : List Int) (h : 4 ≤ r.length) : r.take 4 = [rd r 0, rd r 1, rd r 2, rd r 3] := by
  match r, h with
  | a :: b :: c :: d :: t, _ => rfl
/-- What is read as a frame is its record's frame. -/
theorem parse_frame (r p : List Int) (hw : ∀ x ∈ r, 0 ≤ x ∧ x < 256) (h : parse1 r = some p) : p.length ≤ 16384 ∧ r = frameS p ++ r.drop (8 + p.length) := by
  unfold parse1 at h
  by_cases h8 : r.length < 8
  · rw [if_pos h8] at h; exact absurd h (by simp)
  rw [if_neg h8] at h
  by_cases h16 : hn r > 16384
  · rw [if_pos h16] at h; exact absurd h (by simp)
  rw [if_neg h16] at h
  by_cases hs : (r.length : Int) - 8 < hn r
  · rw [if_pos hs] at h; exact absurd h (by simp)
  rw [if_neg hs] at h
  by_cases hq : nt (sumOf 0#32 (r.take 4 ++ bodyOf r)) = val4 (rd r 4) (rd r 5) (rd r 6) (rd r 7)
  · rw [if_pos hq] at h
    have h := Option.some.inj h
    subst h
    have hb := hn_bounds r hw
    have hbl := body_len r h8 hb.1 hs
    refine ⟨by omega, ?_⟩
    have t4 : r.take 4 = hdp (bodyOf r) := by
      unfold hdp
      rw [hbl, Int.toNat_of_nonneg hb.1, four_take r (by omega)]
      unfold hn
      rw [le4_val _ _ _ _ (rd_byte r hw _) (rd_byte r hw _) (rd_byte r hw _) (rd_byte r hw _)]
    have t8 : (r.drop 4).take 4 = le4 (sumOf 0#32 (hdp (bodyOf r) ++ bodyOf r)) := by
      have hd : ∀ x ∈ r.drop 4, 0 ≤ x ∧ x < 256 := fun x hx => hw x (List.mem_of_mem_drop hx)
      rw [← t4, ← ofInt_nt (sumOf 0#32 (r.take 4 ++ bodyOf r)), hq, ← hn_drop, four_take (r.drop 4) (by rw [List.length_drop]; omega)]
      unfold hn
      rw [le4_val _ _ _ _ (rd_byte _ hd _) (rd_byte _ hd _) (rd_byte _ hd _) (rd_byte _ hd _)]
    unfold frameS
    rw [← t8, ← t4, hbl]
    unfold bodyOf
    rw [← List.take_add, show 4 + 4 = 8 from rfl]
    have : (r.take (8 + (hn r).toNat)).take 8 = r.take 8 := by rw [List.take_take]; congr 1; omega
    rw [← this, List.take_append_drop, List.take_append_drop]
  · rw [if_neg hq] at h; exact absurd h (by simp)
/-- Eight bytes ahead and a body: what is read there. -/
theorem parse_at (p q rest : List Int) (hp : p.length ≤ 16384) (hq : q.length = p.length) :
    parse1 (hdp p ++ le4 (sumOf 0#32 (hdp p ++ p)) ++ q ++ rest) = if sumOf 0#32 (hdp p ++ q) = sumOf 0#32 (hdp p ++ p) then some q else none := by
  obtain ⟨r, hr⟩ : ∃ r, r = hdp p ++ le4 (sumOf 0#32 (hdp p ++ p)) ++ q ++ rest := ⟨_, rfl⟩
  rw [← hr]
  have hlen : r.length = 8 + q.length + rest.length := by rw [hr]; simp only [List.length_append, hdp_len, le4_len]
  have v4 : ∀ (c : BitVec 32), val4 (nt c % 256) (nt c / 256 % 256) (nt c / 65536 % 256) (nt c / 16777216 % 256) = nt c := by
    intro c; have := nt_bounds c; unfold val4; omega
  have hh : hn r = (p.length : Int) := by
    rw [hr]
    show val4 (nt _ % 256) (nt _ / 256 % 256) (nt _ / 65536 % 256) (nt _ / 16777216 % 256) = _
    rw [v4, nt_ofInt _ (by omega) (by omega)]
  have hs : val4 (rd r 4) (rd r 5) (rd r 6) (rd r 7) = nt (sumOf 0#32 (hdp p ++ p)) := by
    rw [hr]
    show val4 (nt _ % 256) (nt _ / 256 % 256) (nt _ / 65536 % 256) (nt _ / 16777216 % 256) = _
    rw [v4]
  have ht : r.take 4 = hdp p := by rw [hr]; rfl
  have hbo : bodyOf r = q := by
    unfold bodyOf
    rw [hh, hr, show 8 + ((p.length : Int)).toNat = (hdp p ++ le4 (sumOf 0#32 (hdp p ++ p)) ++ q).length by simp only [List.length_append, hdp_len, le4_len]; omega, List.take_left]
    rfl
  unfold parse1
  rw [if_neg (by omega), if_neg (by omega), if_neg (by omega), ht, hbo, hs]
  by_cases g : sumOf 0#32 (hdp p ++ q) = sumOf 0#32 (hdp p ++ p)
  · rw [if_pos (by rw [g]), if_pos g]
  · rw [if_neg (fun e => g (nt_inj _ _ e)), if_neg g]
theorem parse_put (p rest : List Int) (hp : p.length ≤ 16384) : parse1 (frameS p ++ rest) = some p := by
  unfold frameS; rw [parse_at p p rest hp rfl, if_pos rfl]
/-- All records, and how far they go. -/
def scanF : Nat → List Int → List (List Int) × Nat
  | 0, _ => ([], 0)
  | n + 1, r => match parse1 r with
    | none => ([], 0)
    | some p => (p :: (scanF n (r.drop (8 + p.length))).1, 8 + p.length + (scanF n (r.drop (8 + p.length))).2)
theorem scanF_len (n : Nat) : ∀ r : List Int, (∀ x ∈ r, 0 ≤ x ∧ x < 256) → (scanF n r).2 ≤ r.length ∧ 8 * (scanF n r).1.length ≤ (scanF n r).2 := by
  induction n with
  | zero => intro r _; exact ⟨Nat.zero_le _, Nat.le_refl _⟩
  | succ n ih =>
    intro r hw
    unfold scanF
    cases h : parse1 r with
    | none => exact ⟨Nat.zero_le _, Nat.le_refl _⟩
    | some p =>
      obtain ⟨h1, h2⟩ := parse_frame r p hw h
      have := ih (r.drop (8 + p.length)) (fun x hx => hw x (List.mem_of_mem_drop hx))
      have hl : r.length = 8 + p.length + (r.drop (8 + p.length)).length := by
        conv => lhs; rw [h2]
        rw [List.length_append, frameS_len]
      simp only [List.length_cons]
      omega
theorem scan_loop (b : List Int) (hw : ∀ x ∈ b, 0 ≤ x ∧ x < 256) (hl : b.length ≤ 40000000000000) (n : Nat) : ∀ (k : Nat) (acc : List (List Int)) (at_ : Int), 0 ≤ at_ → at_ ≤ (b.length : Int) → (b.length : Int) - at_ < n → 8 * (acc.length : Int) ≤ at_ → 200000 + n < k →
    frame_Scan.l0 k b acc at_ = some (acc ++ (scanF n (b.drop at_.toNat)).1, at_ + ((scanF n (b.drop at_.toNat)).2 : Int)) := by
  induction n with
  | zero => intro k acc at_ h0 h1 h2; omega
  | succ n ih =>
    intro k acc at_ h0 h1 h2 h8 hk
    obtain ⟨k, rfl⟩ : ∃ q, k = q + 1 := ⟨k - 1, by omega⟩
    obtain ⟨e, he, hn_⟩ := next_eq b hw (by omega) at_ h0 h1 k (by omega)
    simp only [frame_Scan.l0]
    rw [hn_]
    simp only [Option.bind_some]
    have hrw : ∀ x ∈ b.drop at_.toNat, 0 ≤ x ∧ x < 256 := fun x hx => hw x (List.mem_of_mem_drop hx)
    have hrl : (b.drop at_.toNat).length = b.length - at_.toNat := List.length_drop
    unfold scanF
    cases hp : parse1 (b.drop at_.toNat) with
    | none =>
      simp only
      rw [if_neg he, List.append_nil]; simp
    | some p =>
      simp only
      obtain ⟨g1, g2⟩ := parse_frame _ p hrw hp
      have g3 : (b.drop at_.toNat).length = 8 + p.length + ((b.drop at_.toNat).drop (8 + p.length)).length := by
        conv => lhs; rw [g2]
        rw [List.length_append, frameS_len]
      rw [if_pos trivial, if_pos (by omega)]
      rw [ih k (acc ++ [p]) (at_ + 8 + (p.length : Int)) (by omega) (by omega) (by omega) (by rw [List.length_append]; simp only [List.length_cons, List.length_nil]; omega) (by omega)]
      rw [List.drop_drop, show (at_ + 8 + (p.length : Int)).toNat = at_.toNat + (8 + p.length) by omega, List.append_assoc]
      congr 2
      omega
theorem scan_eq (b : List Int) (hw : ∀ x ∈ b, 0 ≤ x ∧ x < 256) (hl : b.length ≤ 40000000000000) (k : Nat) (hk : 200002 + b.length < k) :
    frame_Scan.f k b = some ((scanF (b.length + 1) b).1, ((scanF (b.length + 1) b).2 : Int)) := by
  unfold frame_Scan.f
  rw [scan_loop b hw hl (b.length + 1) k [] 0 (by omega) (by omega) (by omega) (by simp) (by omega)]
  simp
def flatF (recs : List (List Int)) : List Int := (recs.map frameS).flatten
theorem flatF_nil : flatF [] = [] := rfl
theorem flatF_cons (p : List Int) (r : List (List Int)) : flatF (p :: r) = frameS p ++ flatF r := by unfold flatF; rw [List.map_cons, List.flatten_cons]
theorem parse_nil : parse1 [] = none := by unfold parse1; rw [if_pos (by decide)]
theorem scanF_flat (recs : List (List Int)) : (∀ p ∈ recs, p.length ≤ 16384) → ∀ n, recs.length < n → ∀ t, parse1 t = none → scanF n (flatF recs ++ t) = (recs, (flatF recs).length) := by
  induction recs with
  | nil =>
    intro _ n hn t ht
    obtain ⟨n, rfl⟩ : ∃ m, n = m + 1 := ⟨n - 1, by simp at hn; omega⟩
    rw [flatF_nil, List.nil_append]; unfold scanF; rw [ht]; rfl
  | cons p r ih =>
    intro hp n hn t ht
    simp only [List.length_cons] at hn
    obtain ⟨n, rfl⟩ : ∃ m, n = m + 1 := ⟨n - 1, by omega⟩
    have h1 := ih (fun q hq => hp q (List.mem_cons_of_mem _ hq)) n (by omega) t ht
    rw [flatF_cons, List.append_assoc]
    unfold scanF
    rw [parse_put p _ (hp p List.mem_cons_self)]
    have hd : (frameS p ++ (flatF r ++ t)).drop (8 + p.length) = flatF r ++ t := by rw [← frameS_len, List.drop_left]
    simp only [hd, h1, List.length_append, frameS_len]
theorem scanF_split (n : Nat) : ∀ l : List Int, (∀ x ∈ l, 0 ≤ x ∧ x < 256) → l = flatF (scanF n l).1 ++ l.drop (scanF n l).2 ∧ (flatF (scanF n l).1).length = (scanF n l).2 ∧ ∀ p ∈ (scanF n l).1, p.length ≤ 16384 := by
  induction n with
  | zero => intro l _; exact ⟨rfl, rfl, fun p hp => by simp [scanF] at hp⟩
  | succ n ih =>
    intro l hw
    unfold scanF
    cases h : parse1 l with
    | none => exact ⟨rfl, rfl, fun p hp => by simp at hp⟩
    | some p =>
      obtain ⟨h1, h2⟩ := parse_frame l p hw h
      obtain ⟨g1, g2, g3⟩ := ih (l.drop (8 + p.length)) (fun x hx => hw x (List.mem_of_mem_drop hx))
      refine ⟨?_, ?_, ?_⟩
      · show l = flatF (p :: (scanF n (l.drop (8 + p.length))).1) ++ l.drop (8 + p.length + (scanF n (l.drop (8 + p.length))).2)
        have e : l.drop (8 + p.length + (scanF n (l.drop (8 + p.length))).2) = (l.drop (8 + p.length)).drop (scanF n (l.drop (8 + p.length))).2 := by rw [List.drop_drop]
        rw [e, flatF_cons, List.append_assoc, ← g1]; exact h2
      · show (flatF (p :: _)).length = _
        rw [flatF_cons, List.length_append, frameS_len, g2]
      · intro q hq
        rcases List.mem_cons.1 hq with rfl | hq
        · exact h1
        · exact g3 q hq
theorem within_in (a lo hi : Int) (h0 : 0 ≤ lo) (h1 : lo ≤ hi) (h2 : hi ≤ 1152921504606846976) : ∃ t, draybook_Within.f a lo hi = some t ∧ lo ≤ t ∧ t ≤ hi := by
  unfold draybook_Within.f
  rw [wrap_small (hi - lo) (by omega), wrap_small (hi - lo + 1) (by omega), if_neg (by omega)]
  have hlt := Int.tmod_lt_of_pos a (show 0 < hi - lo + 1 by omega)
  have hgt := Int.lt_tmod_of_pos a (show 0 < hi - lo + 1 by omega)
  generalize Int.tmod a (hi - lo + 1) = t at *
  by_cases g : t < 0
  · rw [if_pos g, wrap_small (t + hi) (by omega), wrap_small (t + hi - lo) (by omega), wrap_small (t + hi - lo + 1) (by omega), wrap_small _ (by omega)]
    exact ⟨_, rfl, by omega, by omega⟩
  · rw [if_neg g, wrap_small _ (by omega)]
    exact ⟨_, rfl, by omega, by omega⟩
theorem flatF_append (a b : List (List Int)) : flatF (a ++ b) = flatF a ++ flatF b := by unfold flatF; rw [List.map_append, List.flatten_append]
theorem rd_take (l : List Int) (t : Nat) (i : Nat) (h : i < t) : rd (l.take t) (i : Int) = rd l (i : Int) := by
  unfold rd
  rw [Int.toNat_natCast, List.getD_eq_getElem?_getD, List.getD_eq_getElem?_getD, List.getElem?_take_of_lt h]
theorem hn_frame (p rest : List Int) (hp : p.length ≤ 16384) : hn (frameS p ++ rest) = (p.length : Int) := by
  have v4 : ∀ (c : BitVec 32), val4 (nt c % 256) (nt c / 256 % 256) (nt c / 65536 % 256) (nt c / 16777216 % 256) = nt c := by
    intro c; have := nt_bounds c; unfold val4; omega
  show val4 (nt _ % 256) (nt _ / 256 % 256) (nt _ / 65536 % 256) (nt _ / 16777216 % 256) = _
  rw [v4, nt_ofInt _ (by omega) (by omega)]
theorem parse_cut (p rest : List Int) (hp : p.length ≤ 16384) (t : Nat) (ht : t < 8 + p.length) : parse1 ((frameS p ++ rest).take t) = none := by
  have hlen : ((frameS p ++ rest).take t).length = t := by rw [List.length_take, List.length_append, frameS_len]; omega
  unfold parse1
  by_cases h8 : t < 8
  · rw [if_pos (by omega)]
  have hh : hn ((frameS p ++ rest).take t) = (p.length : Int) := by
    rw [← hn_frame p rest hp]
    unfold hn
    have e0 : rd ((frameS p ++ rest).take t) 0 = rd (frameS p ++ rest) 0 := rd_take _ t 0 (by omega)
    have e1 : rd ((frameS p ++ rest).take t) 1 = rd (frameS p ++ rest) 1 := rd_take _ t 1 (by omega)
    have e2 : rd ((frameS p ++ rest).take t) 2 = rd (frameS p ++ rest) 2 := rd_take _ t 2 (by omega)
    have e3 : rd ((frameS p ++ rest).take t) 3 = rd (frameS p ++ rest) 3 := rd_take _ t 3 (by omega)
    rw [e0, e1, e2, e3]
  rw [if_neg (by omega), hh, if_neg (by omega), if_pos (by omega)]
theorem cut_scan (put : List (List Int)) : (∀ p ∈ put, p.length ≤ 200) → ∀ n t, t < 8 * n → ∃ m, m ≤ put.length ∧ scanF n ((flatF put).take t) = (put.take m, (flatF (put.take m)).length) ∧ (flatF (put.take m)).length ≤ t ∧ (m < put.length → t < (flatF (put.take (m + 1))).length) := by
  induction put with
  | nil =>
    intro _ n t hn_
    obtain ⟨n, rfl⟩ : ∃ q, n = q + 1 := ⟨n - 1, by omega⟩
    refine ⟨0, Nat.le_refl _, ?_, Nat.zero_le _, fun h => absurd h (Nat.not_lt_zero _)⟩
    rw [flatF_nil, List.take_nil, scanF, parse_nil]; rfl
  | cons p r ih =>
    intro hp n t hn_
    obtain ⟨n, rfl⟩ : ∃ q, n = q + 1 := ⟨n - 1, by omega⟩
    have hpl := hp p List.mem_cons_self
    rw [flatF_cons]
    by_cases ht : t < 8 + p.length
    · refine ⟨0, Nat.zero_le _, ?_, Nat.zero_le _, fun _ => ?_⟩
      · rw [scanF, parse_cut p _ (by omega) t ht]; rfl
      · show t < (flatF [p]).length
        rw [flatF_cons, flatF_nil, List.append_nil, frameS_len]; exact ht
    · obtain ⟨m, m1, m2, m3, m4⟩ := ih (fun q hq => hp q (List.mem_cons_of_mem _ hq)) n (t - (8 + p.length)) (by omega)
      have e : (frameS p ++ flatF r).take t = frameS p ++ (flatF r).take (t - (8 + p.length)) := by
        rw [List.take_append, frameS_len, List.take_of_length_le (by rw [frameS_len]; omega)]
      have hd : (frameS p ++ (flatF r).take (t - (8 + p.length))).drop (8 + p.length) = (flatF r).take (t - (8 + p.length)) := by rw [← frameS_len, List.drop_left]
      refine ⟨m + 1, by simp only [List.length_cons]; omega, ?_, ?_, ?_⟩
      · rw [e, scanF, parse_put p _ (by omega)]
        simp only [hd, m2]
        rw [List.take_succ_cons, flatF_cons, List.length_append, frameS_len]
      · rw [List.take_succ_cons, flatF_cons, List.length_append, frameS_len]; omega
      · intro hm
        simp only [List.length_cons] at hm
        have := m4 (by omega)
        rw [List.take_succ_cons, flatF_cons, List.length_append, frameS_len]; omega
theorem flat_mono (put : List (List Int)) (i j : Nat) (h : i ≤ j) : (flatF (put.take i)).length ≤ (flatF (put.take j)).length := by
  have e : put.take j = put.take i ++ (put.drop i).take (j - i) := by
    conv => lhs; rw [show j = i + (j - i) by omega, List.take_add]
  rw [e, flatF_append, List.length_append]; omega
def endsF (put : List (List Int)) : List Int := (List.range put.length).map fun j => ((flatF (put.take (j + 1))).length : Int)
theorem endsF_len (put : List (List Int)) : (endsF put).length = put.length := by unfold endsF; rw [List.length_map, List.length_range]
theorem endsF_rd (put : List (List Int)) (i : Nat) (h : i < put.length) : rd (endsF put) (i : Int) = ((flatF (put.take (i + 1))).length : Int) := by
  unfold rd endsF
  rw [Int.toNat_natCast, List.getD_eq_getElem?_getD, List.getElem?_map, List.getElem?_range h]; rfl
theorem endsF_snoc (put : List (List Int)) (p : List Int) : endsF (put ++ [p]) = endsF put ++ [((flatF (put ++ [p])).length : Int)] := by
  unfold endsF
  rw [List.length_append, List.length_cons, List.length_nil, List.range_succ, List.map_append]
  congr 1
  · apply List.map_congr_left
    intro j hj
    have := List.mem_range.1 hj
    rw [List.take_append_of_le_length (by omega)]
  · simp only [List.map_cons, List.map_nil]
    rw [List.take_of_length_le (by rw [List.length_append]; simp)]
theorem rdL_take (l : List (List Int)) (m : Nat) (i : Nat) (h : i < m) : rd_L1 (l.take m) (i : Int) = rd_L1 l (i : Int) := by
  unfold rd_L1
  rw [Int.toNat_natCast, List.getD_eq_getElem?_getD, List.getD_eq_getElem?_getD, List.getElem?_take_of_lt h]
theorem back_l2 (put : List (List Int)) (hp : ∀ p ∈ put, p.length ≤ 200) (m : Nat) (hm : m ≤ put.length) (hpl : put.length ≤ 20) (K : Nat) (hK : ∀ k, K ≤ k → draylaw21_FrameRuns.f k = some true) (d : Nat) : ∀ (k i : Nat), i + d = m → 300 + K + d < k →
    draylaw21_FrameBack.l2 k put (put.take m) (m : Int) (i : Int) = some true := by
  have hml : ((put.take m).length : Int) = m := by rw [List.length_take]; omega
  induction d with
  | zero =>
    intro k i hi hk
    obtain ⟨k, rfl⟩ : ∃ q, k = q + 1 := ⟨k - 1, by omega⟩
    rw [draylaw21_FrameBack.l2, if_neg (by omega), hK k (by omega)]; rfl
  | succ d ih =>
    intro k i hi hk
    obtain ⟨k, rfl⟩ : ∃ q, k = q + 1 := ⟨k - 1, by omega⟩
    have hmem : rd_L1 put (i : Int) ∈ put := by
      have := rdL_drop put (i : Int) (by omega) (by omega)
      exact List.mem_of_mem_drop (by rw [this]; exact List.mem_cons_self)
    have := hp _ hmem
    rw [draylaw21_FrameBack.l2, if_pos (by omega), if_pos (by omega), if_pos (by omega), if_pos (by omega), rdL_take put m i (by omega), same_eq _ _ (by omega) k (by omega), decide_eq_true rfl, Option.bind_some, if_pos rfl]
    rw [show wrap64 ((i : Int) + 1) = ((i + 1 : Nat) : Int) by rw [wrap_small _ (by omega)]; omega]
    exact ih k (i + 1) (by omega) (by omega)
theorem back_l1 (put : List (List Int)) (hp : ∀ p ∈ put, p.length ≤ 200) (m t : Nat) (hm : m ≤ put.length) (hpl : put.length ≤ 20) (m3 : (flatF (put.take m)).length ≤ t) (m4 : m < put.length → t < (flatF (put.take (m + 1))).length)
    (K : Nat) (hK : ∀ k, K ≤ k → draylaw21_FrameRuns.f k = some true) (d : Nat) : ∀ (k i w : Nat), i + d = put.length → w = min i m → 400 + K + d < k →
    draylaw21_FrameBack.l1 k (endsF put) put (t : Int) (put.take m) ((flatF (put.take m)).length : Int) (w : Int) ((flatF (put.take w)).length : Int) (i : Int) = some true := by
  have hml : ((put.take m).length : Int) = m := by rw [List.length_take]; omega
  have hel := endsF_len put
  induction d with
  | zero =>
    intro k i w hi hw hk
    obtain ⟨k, rfl⟩ : ∃ q, k = q + 2 := ⟨k - 2, by omega⟩
    have hwm : w = m := by omega
    subst hwm
    rw [draylaw21_FrameBack.l1, if_neg (by omega), if_pos hml, bne_self_eq_false, draylaw21_FrameBack.j3, if_neg (by decide)]
    have := back_l2 put hp w hm hpl K hK w k 0 (by omega) (by omega)
    exact this
  | succ d ih =>
    intro k i w hi hw hk
    obtain ⟨k, rfl⟩ : ∃ q, k = q + 1 := ⟨k - 1, by omega⟩
    have hnext : ∀ (P : Int → Prop), P ((i + 1 : Nat) : Int) → P (wrap64 ((i : Int) + 1)) := by
      intro P hP
      rw [wrap_small _ (by omega)]; exact hP
    rw [draylaw21_FrameBack.l1, if_pos (by omega), if_pos (by omega), if_pos (by omega), endsF_rd put i (by omega)]
    by_cases g : i < m
    · have := flat_mono put (i + 1) m (by omega)
      rw [if_pos (by omega)]
      apply hnext (fun z => draylaw21_FrameBack.l1 k (endsF put) put (t : Int) (put.take m) ((flatF (put.take m)).length : Int) z ((flatF (put.take (i + 1))).length : Int) z = some true)
      exact ih k (i + 1) (i + 1) (by omega) (by omega) (by omega)
    · have := flat_mono put (m + 1) (i + 1) (by omega)
      have := m4 (by omega)
      rw [if_neg (by omega)]
      apply hnext (fun z => draylaw21_FrameBack.l1 k (endsF put) put (t : Int) (put.take m) ((flatF (put.take m)).length : Int) (w : Int) ((flatF (put.take w)).length : Int) z = some true)
      exact ih k (i + 1) w (by omega) (by omega) (by omega)
theorem flat_small (put : List (List Int)) : (∀ p ∈ put, p.length ≤ 200) → (flatF put).length ≤ 208 * put.length := by
  induction put with
  | nil => intro _; exact Nat.le_refl _
  | cons p r ih =>
    intro hp
    have := ih (fun q hq => hp q (List.mem_cons_of_mem _ hq))
    have := hp p List.mem_cons_self
    rw [flatF_cons, List.length_append, frameS_len, List.length_cons]; omega
theorem back_end (l0 : List (List Int)) (a1 i : Int) (put : List (List Int)) (hp : ∀ p ∈ put, p.length ≤ 200) (hb : ∀ p ∈ put, ∀ x ∈ p, 0 ≤ x ∧ x < 256) (hpl : put.length ≤ 20) (K : Nat) (hK : ∀ k, K ≤ k → draylaw21_FrameRuns.f k = some true) (k : Nat) (hk : 300000 + K < k) :
    draylaw21_FrameBack.j1 k l0 a1 (flatF put) (endsF put) put i false = some true := by
  obtain ⟨k, rfl⟩ : ∃ q, k = q + 1 := ⟨k - 1, by omega⟩
  have hfs := flat_small put hp
  have hfb : ∀ x ∈ flatF put, 0 ≤ x ∧ x < 256 := by
    intro x hx
    unfold flatF at hx
    obtain ⟨q, hq, hxq⟩ := List.mem_flatten.1 hx
    obtain ⟨p, hpm, rfl⟩ := List.mem_map.1 hq
    exact frameS_bytes p (hb p hpm) x hxq
  rw [draylaw21_FrameBack.j1, if_neg (by decide)]
  obtain ⟨t, ht, t0, t1⟩ := within_in a1 0 ((flatF put).length : Int) (by omega) (by omega) (by omega)
  rw [ht, Option.bind_some, if_pos t0, if_pos t1]
  have htl : ((flatF put).take t.toNat).length = t.toNat := by rw [List.length_take]; omega
  rw [scan_eq _ (fun x hx => hfb x (List.mem_of_mem_take hx)) (by omega) k (by omega), htl]
  obtain ⟨m, m1, m2, m3, m4⟩ := cut_scan put hp (t.toNat + 1) t.toNat (by omega)
  rw [m2, Option.bind_some]
  have := back_l1 put hp m t.toNat m1 hpl m3 m4 K hK put.length k 0 0 (by omega) (by omega) (by omega)
  rw [show ((t.toNat : Nat) : Int) = t by omega] at this
  exact this
theorem back_l0 (l0 : List (List Int)) (a1 : Int) (hw : ∀ p ∈ l0, ∀ x ∈ p, 0 ≤ x ∧ x < 256) (K : Nat) (hK : ∀ k, K ≤ k → draylaw21_FrameRuns.f k = some true) (d : Nat) : ∀ (k i : Nat) (put : List (List Int)), i + d = min l0.length 20 → put.length ≤ i →
    (∀ p ∈ put, p.length ≤ 200) → (∀ p ∈ put, ∀ x ∈ p, 0 ≤ x ∧ x < 256) → 400000 + K + 2 * d < k → draylaw21_FrameBack.l0 k l0 a1 (flatF put) (endsF put) put (i : Int) = some true := by
  induction d with
  | zero =>
    intro k i put hi hpi hp hb hk
    obtain ⟨k, rfl⟩ : ∃ q, k = q + 1 := ⟨k - 1, by omega⟩
    have he := back_end l0 a1 (i : Int) put hp hb (by omega) K hK k (by omega)
    rw [draylaw21_FrameBack.l0]
    by_cases g : (i : Int) < (l0.length : Int)
    · rw [if_pos g, decide_eq_false (by omega)]; exact he
    · rw [if_neg g]; exact he
  | succ d ih =>
    intro k i put hi hpi hp hb hk
    obtain ⟨k, rfl⟩ : ∃ q, k = q + 2 := ⟨k - 2, by omega⟩
    have hmem : rd_L1 l0 (i : Int) ∈ l0 := by
      have := rdL_drop l0 (i : Int) (by omega) (by omega)
      exact List.mem_of_mem_drop (by rw [this]; exact List.mem_cons_self)
    have hpw := hw _ hmem
    have hfs := flat_small put hp
    have hel := endsF_len put
    have g1 : (i : Int) < (l0.length : Int) := by omega
    have g2 : (i : Int) < 20 := by omega
    have g3 : 0 ≤ (i : Int) := by omega
    rw [draylaw21_FrameBack.l0, if_pos g1, decide_eq_true g2, draylaw21_FrameBack.j1, if_pos rfl, if_pos g3, if_pos g1, show wrap64 ((i : Int) + 1) = ((i + 1 : Nat) : Int) by rw [wrap_small _ (by omega)]; omega]
    generalize rd_L1 l0 (i : Int) = p at hpw
    by_cases g : (p.length : Int) > 200
    · rw [if_pos g]
      exact ih k (i + 1) put (by omega) (by omega) hp hb (by omega)
    · rw [if_neg g, put_eq (flatF put) p (by omega) (by omega) k (by omega), Option.bind_some, if_pos (by omega), if_pos (by omega)]
      have e1 : flatF put ++ frameS p = flatF (put ++ [p]) := by rw [flatF_append, flatF_cons, flatF_nil, List.append_nil]
      rw [e1, ← endsF_snoc]
      exact ih k (i + 1) (put ++ [p]) (by omega) (by rw [List.length_append, List.length_cons, List.length_nil]; omega) (by
        intro q hq
        rcases List.mem_append.1 hq with h | h
        · exact hp q h
        · rw [List.mem_singleton.1 h]; omega) (by
        intro q hq
        rcases List.mem_append.1 hq with h | h
        · exact hb q h
        · rw [List.mem_singleton.1 h]; exact hpw) (by omega)
theorem FrameBack (l0 : List (List Int)) (a1 : Int) (hw : ∀ p ∈ l0, ∀ x ∈ p, (Lit.int .u8 x).wf = true) : ∃ k, draylaw21_FrameBack.f k l0 a1 = some true := by
  have hb : ∀ p ∈ l0, ∀ x ∈ p, 0 ≤ x ∧ x < 256 := fun p hp x hx => u8_bounds x (hw p hp x hx)
  obtain ⟨K, hK⟩ := runs
  obtain ⟨k, hk⟩ : ∃ k, k = K + 500000 := ⟨_, rfl⟩
  refine ⟨k, ?_⟩
  unfold draylaw21_FrameBack.f
  exact back_l0 l0 a1 hb K hK (min l0.length 20) k 0 [] (by omega) (Nat.le_refl _) (fun p hp => absurd hp (by simp)) (fun p hp => absurd hp (by simp)) (by omega)

end Go.Proofs.Ytdkpcfgomdfadaa.Pure
