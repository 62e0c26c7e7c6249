/- Sealed bytes of which bits within 32 that lie one behind the other are turned are refused; draylaw2.SumBursts answers true; no condition. -/
import Derived.Test.YtdfpobcfcjmbdaaPSumBurstsx
import Derived.Test.YtdfpobcfcjmbdaaWWords
import Derived.Laws.BitsLemmas
namespace Go.Proofs.Ytdfpobcfcjmbdaa.Pure
open Go.RowKit Go.Proofs.Ytdfpobcfcjmbdaa.PSumBursts Go.Proofs.YtdfpobcfcjmbdaaW.PrintWords Go.Proofs.YtdfpobcfcjmbdaaW.PrintLast
set_option linter.unusedVariables false
set_option linter.unusedSimpArgs false

theorem runs1 : ∃ k, draylaw2_SumRuns.f k = some true := ⟨200, by decide +kernel⟩
theorem runs : ∃ K, ∀ k, K ≤ k → draylaw2_SumRuns.f k = some true := by
  obtain ⟨K, hK⟩ := runs1
  exact ⟨K, fun k hk => at_rounds draylaw2_SumRuns.mono hk hK⟩
/-! ### The sum of bits, in plain Lean: a shift register of 32 bits -/
def gen : BitVec 32 := 3988292384#32
def stp (s : BitVec 32) : BitVec 32 := (s >>> 1) ^^^ (if s.getLsbD 0 = true then gen else 0#32)
def stps : Nat → BitVec 32 → BitVec 32
  | 0, s => s
  | n + 1, s => stps n (stp s)
theorem stp_xor (a b : BitVec 32) : stp (a ^^^ b) = stp a ^^^ stp b := by
  unfold stp
  have h : (a ^^^ b).getLsbD 0 = (a.getLsbD 0 ^^ b.getLsbD 0) := BitVec.getLsbD_xor
  rw [h]
  have hs : (a ^^^ b) >>> 1 = (a >>> 1) ^^^ (b >>> 1) := by
    ext i hi
    simp
  rw [hs]
  generalize a >>> 1 = x
  generalize b >>> 1 = y
  cases a.getLsbD 0 <;> cases b.getLsbD 0
  · simp
  · simp only [Bool.false_bne, Bool.false_eq_true, if_false, if_true, Bool.xor_true, Bool.not_false, BitVec.xor_zero, Bool.false_xor]; ac_rfl
  · simp only [Bool.false_eq_true, if_false, if_true, Bool.xor_false, BitVec.xor_zero]; ac_rfl
  · simp only [Bool.xor_self, Bool.false_eq_true, if_false, if_true]
    rw [show x ^^^ gen ^^^ (y ^^^ gen) = x ^^^ y ^^^ (gen ^^^ gen) by ac_rfl, BitVec.xor_self]
theorem stp_zero : stp 0#32 = 0#32 := by decide
theorem stp_eq_zero (s : BitVec 32) (h : stp s = 0#32) : s = 0#32 := by
  unfold stp at h
  cases h0 : s.getLsbD 0 with
  | true =>
    rw [h0] at h
    simp only [if_true] at h
    have h31 : ((s >>> 1) ^^^ gen).getLsbD 31 = false := by rw [h]; rfl
    rw [BitVec.getLsbD_xor, BitVec.getLsbD_ushiftRight] at h31
    have hg : gen.getLsbD 31 = true := by decide
    have hz : s.getLsbD (1 + 31) = false := BitVec.getLsbD_of_ge _ _ (by omega)
    rw [hg, hz] at h31
    cases h31
  | false =>
    rw [h0] at h
    simp only [Bool.false_eq_true, if_false, BitVec.xor_zero] at h
    ext i hi
    rw [BitVec.getElem_zero, ← BitVec.getLsbD_eq_getElem]
    cases i with
    | zero => exact h0
    | succ i =>
      have : (s >>> 1).getLsbD i = false := by rw [h]; simp
      rw [BitVec.getLsbD_ushiftRight, Nat.add_comm] at this
      exact this
theorem stps_xor (n : Nat) : ∀ a b, stps n (a ^^^ b) = stps n a ^^^ stps n b := by
  induction n with
  | zero => intro a b; rfl
  | succ n ih => intro a b; simp only [stps]; rw [stp_xor, ih]
theorem stps_zero (n : Nat) : stps n 0#32 = 0#32 := by
  induction n with
  | zero => rfl
  | succ n ih => simp only [stps]; rw [stp_zero, ih]
theorem stps_eq_zero (n : Nat) : ∀ s, stps n s = 0#32 → s = 0#32 := by
  induction n with
  | zero => intro s h; exact h
  | succ n ih => intro s h; exact stp_eq_zero s (ih _ h)
theorem stps_add (n m : Nat) : ∀ s, stps (n + m) s = stps m (stps n s) := by
  induction n with
  | zero => intro s; rw [Nat.zero_add]; rfl
  | succ n ih => intro s; rw [Nat.succ_add]; exact ih _
theorem xor_eq_zero (a b : BitVec 32) (h : a ^^^ b = 0#32) : a = b := by
  have : a ^^^ b ^^^ b = 0#32 ^^^ b := by rw [h]
  rw [BitVec.xor_assoc, BitVec.xor_self, BitVec.xor_zero, BitVec.zero_xor] at this
  exact this
theorem stps_inj (n : Nat) (a b : BitVec 32) (h : stps n a = stps n b) : a = b :=
  xor_eq_zero a b (stps_eq_zero n _ (by rw [stps_xor, h, BitVec.xor_self]))
/-- What stands high enough comes down as it is. -/
theorem stps_shl (j : Nat) : ∀ w : BitVec 32, j ≤ 32 → w.toNat < 2 ^ (32 - j) → stps j (w <<< j) = w := by
  induction j with
  | zero => intro w _ _; simp [stps]
  | succ j ih =>
    intro w hj hw
    have h1 : stp (w <<< (j + 1)) = w <<< j := by
      unfold stp
      have h0 : (w <<< (j + 1)).getLsbD 0 = false := by simp
      rw [h0]
      simp only [Bool.false_eq_true, if_false, BitVec.xor_zero]
      ext i hi
      rw [← BitVec.getLsbD_eq_getElem, ← BitVec.getLsbD_eq_getElem, BitVec.getLsbD_ushiftRight, BitVec.getLsbD_shiftLeft, BitVec.getLsbD_shiftLeft]
      by_cases hij : i < j
      · have a1 : 1 + i < j + 1 := by omega
        simp [hij, a1]
      · have a1 : ¬ 1 + i < j + 1 := by omega
        have e1 : 1 + i - (j + 1) = i - j := by omega
        simp only [hij, a1, e1, hi, decide_true, Bool.true_and, decide_false, Bool.not_false]
        by_cases hb : 1 + i < 32
        · simp [hb]
        · have hlt : w.toNat < 2 ^ (i - j) := Nat.lt_of_lt_of_le hw (Nat.pow_le_pow_right (by omega) (by omega))
          have : w.getLsbD (i - j) = false := by rw [← BitVec.testBit_toNat]; exact Nat.testBit_lt_two_pow hlt
          simp [this]
    simp only [stps]
    rw [h1]
    exact ih w (by omega) (Nat.lt_of_lt_of_le hw (Nat.pow_le_pow_right (by omega) (by omega)))

/-! ### words -/
def crcW (s : BitVec 32) (l : List (BitVec 32)) : BitVec 32 := l.foldl (fun s w => stps 8 (s ^^^ w)) s
theorem crcW_nil (s : BitVec 32) : crcW s [] = s := rfl
theorem crcW_cons (s w : BitVec 32) (l : List (BitVec 32)) : crcW s (w :: l) = crcW (stps 8 (s ^^^ w)) l := rfl
theorem crcW_append (s : BitVec 32) (l m : List (BitVec 32)) : crcW s (l ++ m) = crcW (crcW s l) m := by unfold crcW; rw [List.foldl_append]
theorem crcW_xor (l : List (BitVec 32)) : ∀ s t, crcW (s ^^^ t) l = crcW s l ^^^ stps (8 * l.length) t := by
  induction l with
  | nil => intro s t; rfl
  | cons w l ih =>
    intro s t
    rw [crcW_cons, crcW_cons, show s ^^^ t ^^^ w = (s ^^^ w) ^^^ t by rw [BitVec.xor_assoc, BitVec.xor_comm t w, ← BitVec.xor_assoc], stps_xor, ih, ← stps_add]
    congr 2
    simp only [List.length_cons]; omega
/-- One word is turned. -/
theorem crcW_set (l : List (BitVec 32)) : ∀ (i : Nat) (s u : BitVec 32) (_ : i < l.length), crcW s (l.set i (l.getD i 0#32 ^^^ u)) = crcW s l ^^^ stps (8 * (l.length - i)) u := by
  induction l with
  | nil => intro i s u h; simp at h
  | cons w l ih =>
    intro i s u h
    cases i with
    | zero =>
      simp only [List.set_cons_zero, List.getD_cons_zero, crcW_cons]
      rw [← BitVec.xor_assoc, stps_xor, crcW_xor, ← stps_add]
      congr 2
      simp only [List.length_cons]; omega
    | succ i =>
      simp only [List.set_cons_succ, List.getD_cons_succ, crcW_cons]
      rw [ih i _ u (by simpa using h)]
      congr 2
      simp only [List.length_cons]; omega
theorem one_shl (j : Nat) (hj : j < 32) : stps j (1#32 <<< j) = 1#32 :=
  stps_shl j 1#32 (by omega) (by
    have : (1#32 : BitVec 32).toNat = 1 := rfl
    rw [this]
    exact Nat.one_lt_two_pow (by omega))
/-- A bit that is turned, seen from the end. -/
theorem bit_end (m k : Nat) (hk : k < 32) (hm : k ≤ m) : stps (m - k) 1#32 = stps m (1#32 <<< k) := by
  have : m = k + (m - k) := by omega
  rw [this, stps_add, one_shl k hk]
  congr 1; omega
theorem bit_set (l : List (BitVec 32)) (b : Nat) (s : BitVec 32) (hb : b / 8 < l.length) :
    crcW s (l.set (b / 8) (l.getD (b / 8) 0#32 ^^^ (1#32 <<< (b % 8)))) = crcW s l ^^^ stps (8 * l.length - b) 1#32 := by
  rw [crcW_set l (b / 8) s _ hb]
  have h8 := bit_end (8 * (l.length - b / 8)) (b % 8) (by omega) (by omega)
  rw [← h8]
  congr 2; omega
/-! ### The printed functions come to the shift register -/
theorem wrap_small (a : Int) (h : -9223372036854775808 ≤ a ∧ a ≤ 9223372036854775807) : wrap64 a = a := by unfold wrap64; omega
theorem rd_drop (l : List Int) (i : Int) (h0 : 0 ≤ i) (h1 : i < (l.length : Int)) : l.drop i.toNat = rd l i :: l.drop (i + 1).toNat := by
  have hi : i.toNat < l.length := by omega
  rw [List.drop_eq_getElem_cons hi, show (i + 1).toNat = i.toNat + 1 by omega]
  congr 1
  unfold rd; rw [List.getD_eq_getElem?_getD, List.getElem?_eq_getElem hi]; rfl
def nt (s : BitVec 32) : Int := (s.toNat : Int)
theorem nt_bounds (s : BitVec 32) : 0 ≤ nt s ∧ nt s < 4294967296 := by unfold nt; have := s.isLt; omega
theorem ofInt_nt (s : BitVec 32) : BitVec.ofInt 32 (nt s) = s := by
  unfold nt; rw [BitVec.ofInt_natCast, BitVec.ofNat_toNat, BitVec.setWidth_eq]
theorem nt_inj (s t : BitVec 32) (h : nt s = nt t) : s = t := by rw [← ofInt_nt s, h, ofInt_nt]
theorem nt_ofInt (x : Int) (h0 : 0 ≤ x) (h1 : x < 4294967296) : nt (BitVec.ofInt 32 x) = x := by
  unfold nt; rw [BitVec.toNat_ofInt]; simp; omega
theorem xor_nt (s t : BitVec 32) : Go.bits .xor .u32 (nt s) (nt t) = nt (s ^^^ t) := by
  show IntKind.u32.wrap (((BitVec.ofInt 32 (nt s)) ^^^ (BitVec.ofInt 32 (nt t))).toNat : Int) = _
  rw [ofInt_nt, ofInt_nt, IntKind.wrap_u32]
  have := (s ^^^ t).isLt
  unfold nt; omega
theorem xor_max (s : BitVec 32) : Go.bits .xor .u32 4294967295 (nt s) = nt (~~~s) := by
  have h := xor_nt (4294967295#32) s
  rw [show nt (4294967295#32) = 4294967295 from rfl] at h
  rw [h, show (4294967295#32 : BitVec 32) = BitVec.allOnes 32 from by decide, BitVec.allOnes_xor]
theorem ofInt_mod (x : Int) : BitVec.ofInt 32 (x % 4294967296) = BitVec.ofInt 32 x := by
  apply BitVec.eq_of_toInt_eq
  rw [BitVec.toInt_ofInt, BitVec.toInt_ofInt, show (4294967296 : Int) = ((2 ^ 32 : Nat) : Int) from rfl, Int.emod_bmod]
theorem xor_byte (s : BitVec 32) (x : Int) : Go.bits .xor .u32 (nt s) (x % 4294967296) = nt (s ^^^ BitVec.ofInt 32 x) := by
  have h := xor_nt s (BitVec.ofInt 32 (x % 4294967296))
  rw [nt_ofInt _ (by omega) (by omega), ofInt_mod] at h
  exact h
theorem and_one (s : BitVec 32) : Go.bits .and .u32 (nt s) 1 = if s.getLsbD 0 = true then 1 else 0 := by
  show IntKind.u32.wrap (((BitVec.ofInt 32 (nt s)) &&& (BitVec.ofInt 32 1)).toNat : Int) = _
  rw [ofInt_nt, IntKind.wrap_u32]
  have h : (s &&& BitVec.ofInt 32 1) = if s.getLsbD 0 = true then 1#32 else 0#32 := by
    ext i hi
    have h1 : (BitVec.ofInt 32 1)[i] = (1#32)[i] := rfl
    rw [BitVec.getElem_and, h1]
    cases i with
    | zero => cases h0 : s.getLsbD 0 <;> simp [← BitVec.getLsbD_eq_getElem, h0]
    | succ i => cases h0 : s.getLsbD 0 <;> simp
  rw [h]
  cases s.getLsbD 0 <;> decide
theorem half (s : BitVec 32) : nt s / (2 : Int) = nt (s >>> (1 : Nat)) := by
  unfold nt; rw [BitVec.toNat_ushiftRight, Nat.shiftRight_eq_div_pow]; omega
theorem step_eq (s : BitVec 32) : Go.bits .xor .u32 (nt s / 2) ((3988292384 * (Go.bits .and .u32 (nt s) 1)) % 4294967296) = nt (stp s) := by
  rw [and_one, half]
  unfold stp
  cases s.getLsbD 0 with
  | true =>
    simp only [if_true]
    exact xor_nt _ gen
  | false =>
    simp only [Bool.false_eq_true, if_false]
    exact xor_nt _ (0#32)

def words (l : List Int) : List (BitVec 32) := l.map (BitVec.ofInt 32)
theorem words_append (l m : List Int) : words (l ++ m) = words l ++ words m := by unfold words; rw [List.map_append]
def sumOf (c : BitVec 32) (l : List Int) : BitVec 32 := ~~~ crcW (~~~ c) (words l)
theorem sumOf_nil (c : BitVec 32) : sumOf c [] = c := by unfold sumOf; show ~~~ ~~~ c = c; exact BitVec.not_not
theorem sumOf_append (c : BitVec 32) (l m : List Int) : sumOf c (l ++ m) = sumOf (sumOf c l) m := by
  unfold sumOf; rw [words_append, crcW_append, BitVec.not_not]

theorem add_inner (l : List Int) (n i : Int) (d : Nat) : ∀ (k : Nat) (s : BitVec 32), d ≤ 8 → sum_Add.l1 (k + d + 1) (nt s) l n i (8 - (d : Int)) = sum_Add.l0 k (nt (stps d s)) l n (wrap64 (i + 1)) := by
  induction d with
  | zero => intro k s _; simp only [sum_Add.l1]; rw [if_neg (by omega)]; rfl
  | succ d ih =>
    intro k s hd
    rw [show k + (d + 1) + 1 = (k + d + 1) + 1 by omega]
    rw [sum_Add.l1]
    rw [if_pos (by omega), step_eq, wrap_small _ (by omega), show (8 : Int) - ((d + 1 : Nat) : Int) + 1 = 8 - (d : Int) by omega, ih k _ (by omega)]
    rfl
theorem add_loop (l : List Int) (hl : l.length ≤ 1152921504606846976) (d : Nat) : ∀ (k : Nat) (s : BitVec 32) (i : Int), 0 ≤ i → i ≤ (l.length : Int) → (l.length : Int) - i = d → 10 * d < k →
    sum_Add.l0 k (nt s) l (l.length : Int) i = some (nt (~~~ crcW s (words (l.drop i.toNat)))) := by
  induction d with
  | zero =>
    intro k s i h0 h1 hd hk
    obtain ⟨k, rfl⟩ : ∃ m, k = m + 1 := ⟨k - 1, by omega⟩
    simp only [sum_Add.l0]; rw [if_neg (by omega), List.drop_of_length_le (by omega), xor_max]; rfl
  | succ d ih =>
    intro k s i h0 h1 hd hk
    obtain ⟨k, rfl⟩ : ∃ m, k = m + 10 := ⟨k - 10, by omega⟩
    have hlt : i < (l.length : Int) := by omega
    rw [show k + 10 = (k + 8 + 1) + 1 by omega, sum_Add.l0, if_pos hlt, if_pos h0, if_pos hlt, xor_byte]
    have hin := add_inner l (l.length : Int) i 8 k (s ^^^ BitVec.ofInt 32 (rd l i)) (by omega)
    rw [show (8 : Int) - ((8 : Nat) : Int) = 0 by omega] at hin
    rw [hin, wrap_small (i + 1) (by omega), ih k _ (i + 1) (by omega) (by omega) (by omega) (by omega), rd_drop l i h0 hlt]
    rfl
theorem add_eq (c : BitVec 32) (l : List Int) (hl : l.length ≤ 1152921504606846976) (k : Nat) (hk : 10 * l.length < k) : sum_Add.f k (nt c) l = some (nt (sumOf c l)) := by
  unfold sum_Add.f
  rw [xor_max, add_loop l hl l.length k _ 0 (by omega) (by omega) (by omega) hk]; rfl
theorem rdL_drop (l : List (List Int)) (i : Int) (h0 : 0 ≤ i) (h1 : i < (l.length : Int)) : l.drop i.toNat = rd_L1 l i :: l.drop (i + 1).toNat := by
  have hi : i.toNat < l.length := by omega
  rw [List.drop_eq_getElem_cons hi, show (i + 1).toNat = i.toNat + 1 by omega]
  congr 1
  unfold rd_L1; rw [List.getD_eq_getElem?_getD, List.getElem?_eq_getElem hi]; rfl
theorem of_loop (ls : List (List Int)) (hl : ls.length ≤ 1152921504606846976) (K : Nat) (hK : ∀ l ∈ ls, l.length ≤ 1152921504606846976 ∧ 10 * l.length < K) (d : Nat) : ∀ (k : Nat) (c : BitVec 32) (i : Int), 0 ≤ i → i ≤ (ls.length : Int) → (ls.length : Int) - i = d → K + d < k →
    sum_Of.l0 k (nt c) ls (ls.length : Int) i = some (nt (sumOf c (ls.drop i.toNat).flatten)) := by
  induction d with
  | zero =>
    intro k s i h0 h1 hd hk
    obtain ⟨k, rfl⟩ : ∃ m, k = m + 1 := ⟨k - 1, by omega⟩
    simp only [sum_Of.l0]; rw [if_neg (by omega), List.drop_of_length_le (by omega), List.flatten_nil, sumOf_nil]
  | succ d ih =>
    intro k c i h0 h1 hd hk
    obtain ⟨k, rfl⟩ : ∃ m, k = m + 1 := ⟨k - 1, by omega⟩
    have hlt : i < (ls.length : Int) := by omega
    have hdr := rdL_drop ls i h0 hlt
    have hmem : rd_L1 ls i ∈ ls := List.mem_of_mem_drop (by rw [hdr]; exact List.mem_cons_self)
    simp only [sum_Of.l0]; rw [if_pos hlt, if_pos h0, if_pos hlt, add_eq c _ (hK _ hmem).1 k (by have := (hK _ hmem).2; omega)]
    simp only [Option.bind_some]
    rw [wrap_small (i + 1) (by omega), ih k _ (i + 1) (by omega) (by omega) (by omega) (by omega), hdr, List.flatten_cons, sumOf_append]
theorem of_eq (ls : List (List Int)) (hl : ls.length ≤ 1152921504606846976) (K k : Nat) (hK : ∀ l ∈ ls, l.length ≤ 1152921504606846976 ∧ 10 * l.length < K) (hk : K + ls.length < k) : sum_Of.f k ls = some (nt (sumOf 0#32 ls.flatten)) := by
  unfold sum_Of.f
  have h := of_loop ls hl K hK ls.length k 0#32 0 (by omega) (by omega) (by omega) hk
  exact h
theorem of_one (l : List Int) (hl : l.length ≤ 1152921504606846976) (k : Nat) (hk : 10 * l.length + 2 < k) : sum_Of.f k [l] = some (nt (sumOf 0#32 l)) := by
  rw [of_eq [l] (by simp) (10 * l.length + 1) k (by simp only [List.mem_singleton]; rintro _ rfl; omega) (by simp only [List.length_cons, List.length_nil]; omega)]
  simp

/-- The sum's four bytes, the lowest first. -/
def le4 (c : BitVec 32) : List Int := [nt c % 256, nt c / 256 % 256, nt c / 65536 % 256, nt c / 16777216 % 256]
theorem ite_some {α : Type} {c : Prop} [Decidable c] (h : c) (a b : Option α) : (if c then a else b) = a := if_pos h
theorem seal_eq (l : List Int) (hl : l.length ≤ 140737488351232) (k : Nat) (hk : 10 * l.length + 2 < k) : sum_Seal.f k l = some (l ++ le4 (sumOf 0#32 l)) := by
  have h1 := of_one l (by omega) k hk
  have hw : wrap64 ((l.length : Int) + 4) = (l.length : Int) + 4 := wrap_small _ (by omega)
  have a1 : 0 ≤ (l.length : Int) + 4 := by omega
  have a2 : ((l.length : Int) + 4).toNat ≤ 281474976710656 := by omega
  have a3 : 0 + l.length < 140737488355328 := by omega
  have a4 : l.length + 4 < 140737488355328 := by omega
  unfold sum_Seal.f
  rw [h1, hw]
  clear h1 hw
  unfold le4
  generalize nt (sumOf 0#32 l) = c
  simp only [Option.bind_some, List.nil_append, List.length_nil, List.length_cons, Nat.zero_add, Nat.reduceAdd]
  rw [ite_some a1, ite_some a2]
  rw [Nat.zero_add] at a3
  rw [ite_some a3, ite_some a4]
theorem within_in (a lo hi : Int) (h0 : 0 ≤ lo) (h1 : lo ≤ hi) (h2 : hi ≤ 1152921504606846976) : ∃ t, draybook_Within.f a lo hi = some t ∧ lo ≤ t ∧ t ≤ hi := by
  unfold draybook_Within.f
  rw [wrap_small (hi - lo) (by omega), wrap_small (hi - lo + 1) (by omega), if_neg (by omega)]
  have hlt := Int.tmod_lt_of_pos a (show 0 < hi - lo + 1 by omega)
  have hgt := Int.lt_tmod_of_pos a (show 0 < hi - lo + 1 by omega)
  generalize Int.tmod a (hi - lo + 1) = t at *
  by_cases g : t < 0
  · rw [if_pos g, wrap_small (t + hi) (by omega), wrap_small (t + hi - lo) (by omega), wrap_small (t + hi - lo + 1) (by omega), wrap_small _ (by omega)]
    exact ⟨_, rfl, by omega, by omega⟩
  · rw [if_neg g, wrap_small _ (by omega)]
    exact ⟨_, rfl, by omega, by omega⟩
/-! ### Open: the four bytes at the end hold the sum of what stands ahead -/
theorem or_nt (s t : BitVec 32) : Go.bits .or .u32 (nt s) (nt t) = nt (s ||| t) := by
  show IntKind.u32.wrap (((BitVec.ofInt 32 (nt s)) ||| (BitVec.ofInt 32 (nt t))).toNat : Int) = _
  rw [ofInt_nt, ofInt_nt, IntKind.wrap_u32]
  have := (s ||| t).isLt
  unfold nt; omega
theorem or_add (a b : Nat) (i : Nat) (ha : a < 2 ^ i) (hs : a + b * 2 ^ i < 4294967296) : Go.bits .or .u32 (a : Int) ((b * 2 ^ i : Nat) : Int) = ((a + b * 2 ^ i : Nat) : Int) := by
  have h1 : nt (BitVec.ofNat 32 a) = (a : Int) := by unfold nt; rw [BitVec.toNat_ofNat, Nat.mod_eq_of_lt (by omega)]
  have h2 : nt (BitVec.ofNat 32 (b * 2 ^ i)) = ((b * 2 ^ i : Nat) : Int) := by unfold nt; rw [BitVec.toNat_ofNat, Nat.mod_eq_of_lt (by omega)]
  rw [← h1, ← h2, or_nt]
  unfold nt
  rw [BitVec.toNat_or, BitVec.toNat_ofNat, BitVec.toNat_ofNat, Nat.mod_eq_of_lt (show a < 2 ^ 32 by omega), Nat.mod_eq_of_lt (show b * 2 ^ i < 2 ^ 32 by omega)]
  have := Nat.two_pow_add_eq_or_of_lt ha b
  rw [Nat.mul_comm] at this
  rw [Nat.or_comm, ← this, Nat.add_comm]
def val4 (a b c d : Int) : Int := a + 256 * b + 65536 * c + 16777216 * d
theorem or_chain (a b c d : Int) (ha : 0 ≤ a ∧ a < 256) (hb : 0 ≤ b ∧ b < 256) (hc : 0 ≤ c ∧ c < 256) (hd : 0 ≤ d ∧ d < 256) :
    Go.bits .or .u32 (Go.bits .or .u32 (Go.bits .or .u32 (a % 4294967296) (((b % 4294967296) * 256) % 4294967296)) (((c % 4294967296) * 65536) % 4294967296)) (((d % 4294967296) * 16777216) % 4294967296) = val4 a b c d := by
  obtain ⟨a, rfl⟩ := Int.eq_ofNat_of_zero_le ha.1
  obtain ⟨b, rfl⟩ := Int.eq_ofNat_of_zero_le hb.1
  obtain ⟨c, rfl⟩ := Int.eq_ofNat_of_zero_le hc.1
  obtain ⟨d, rfl⟩ := Int.eq_ofNat_of_zero_le hd.1
  have e0 : ((a : Int) % 4294967296) = (a : Int) := by omega
  have e1 : ((b : Int) % 4294967296 * 256) % 4294967296 = ((b * 2 ^ 8 : Nat) : Int) := by omega
  have e2 : ((c : Int) % 4294967296 * 65536) % 4294967296 = ((c * 2 ^ 16 : Nat) : Int) := by omega
  have e3 : ((d : Int) % 4294967296 * 16777216) % 4294967296 = ((d * 2 ^ 24 : Nat) : Int) := by omega
  rw [e0, e1, e2, e3, or_add a b 8 (by omega) (by omega), or_add (a + b * 2 ^ 8) c 16 (by omega) (by omega), or_add (a + b * 2 ^ 8 + c * 2 ^ 16) d 24 (by omega) (by omega)]
  unfold val4; omega
theorem u8_bounds (c : Int) (h : (Lit.int .u8 c).wf = true) : 0 ≤ c ∧ c < 256 := by
  simp only [Lit.wf, IntKind.min, IntKind.max, IntKind.signed, IntKind.bits, Bool.and_eq_true, decide_eq_true_eq] at h
  simp at h; omega
theorem rd_byte (l : List Int) (hw : ∀ x ∈ l, 0 ≤ x ∧ x < 256) (i : Int) : 0 ≤ rd l i ∧ rd l i < 256 := by
  unfold rd
  rw [List.getD_eq_getElem?_getD]
  rcases h : l[i.toNat]? with _ | x
  · simp
  · exact hw x (List.mem_of_getElem? h)
theorem open_eq (l : List Int) (hl : l.length ≤ 140737488355000) (hw : ∀ x ∈ l, 0 ≤ x ∧ x < 256) (k : Nat) (hk : 10 * l.length + 2 < k) (h4 : 4 ≤ l.length) :
    sum_Open.f k l = some (if nt (sumOf 0#32 (l.take (l.length - 4))) = val4 (rd l ((l.length : Int) - 4)) (rd l ((l.length : Int) - 4 + 1)) (rd l ((l.length : Int) - 4 + 2)) (rd l ((l.length : Int) - 4 + 3)) then (l.take (l.length - 4), true) else ([], false)) := by
  have ht : (l.take (l.length - 4)).length = l.length - 4 := by rw [List.length_take]; omega
  have h1 := of_one (l.take (l.length - 4)) (by omega) k (by omega)
  have hw1 : wrap64 ((l.length : Int) - 4) = (l.length : Int) - 4 := wrap_small _ (by omega)
  have a1 : ((l.length : Int) - 4).toNat = l.length - 4 := by omega
  unfold sum_Open.f
  rw [hw1, wrap_small ((l.length : Int) - 4 + 1) (by omega), wrap_small ((l.length : Int) - 4 + 2) (by omega), wrap_small ((l.length : Int) - 4 + 3) (by omega)]
  rw [if_neg (by omega), if_pos (by omega), if_pos (by omega), if_pos (by omega), if_pos (by omega), if_pos (by omega), if_pos (by omega), if_pos (by omega), if_pos (by omega), if_pos (by omega)]
  simp only [Option.bind_some]
  rw [a1, h1]; simp only [Option.bind_some, List.nil_append, List.length_nil, Nat.zero_add]
  rw [or_chain _ _ _ _ (rd_byte l hw _) (rd_byte l hw _) (rd_byte l hw _) (rd_byte l hw _), ht]
  by_cases h : nt (sumOf 0#32 (l.take (l.length - 4))) = val4 (rd l ((l.length : Int) - 4)) (rd l ((l.length : Int) - 4 + 1)) (rd l ((l.length : Int) - 4 + 2)) (rd l ((l.length : Int) - 4 + 3))
  · rw [if_pos h, if_pos h, ite_some (show l.length - 4 < 140737488355328 by omega)]
  · rw [if_neg h, if_neg h]
theorem open_short (l : List Int) (k : Nat) (h4 : l.length < 4) : sum_Open.f k l = some ([], false) := by
  unfold sum_Open.f
  rw [wrap_small ((l.length : Int) - 4) (by omega), if_pos (by omega)]
theorem same_loop (l m : List Int) (hl : l.length ≤ 1152921504606846976) (he : l.length = m.length) (d : Nat) : ∀ (k : Nat) (i : Int), 0 ≤ i → i ≤ (l.length : Int) → (l.length : Int) - i = d → d < k →
    draybook_Same_byte.l0 k l m i = some (decide (l.drop i.toNat = m.drop i.toNat)) := by
  induction d with
  | zero =>
    intro k i h0 h1 hd hk
    obtain ⟨k, rfl⟩ : ∃ q, k = q + 1 := ⟨k - 1, by omega⟩
    simp only [draybook_Same_byte.l0]; rw [if_neg (by omega), List.drop_of_length_le (by omega), List.drop_of_length_le (by omega)]; rfl
  | succ d ih =>
    intro k i h0 h1 hd hk
    obtain ⟨k, rfl⟩ : ∃ q, k = q + 1 := ⟨k - 1, by omega⟩
    have hlt : i < (l.length : Int) := by omega
    simp only [draybook_Same_byte.l0]; rw [if_pos hlt, if_pos h0, if_pos (by omega), rd_drop l i h0 hlt, rd_drop m i h0 (by omega)]
    by_cases g : rd l i = rd m i
    · rw [if_pos g, wrap_small (i + 1) (by omega), ih k (i + 1) (by omega) (by omega) (by omega) (by omega), g]
      congr 1
      simp
    · rw [if_neg g]; congr 1; symm; rw [decide_eq_false_iff_not]; intro h; injection h with h; exact g h
theorem same_eq (l m : List Int) (hl : l.length ≤ 1152921504606846976) (k : Nat) (hk : l.length < k) : draybook_Same_byte.f k l m = some (decide (l = m)) := by
  unfold draybook_Same_byte.f
  by_cases he : l.length = m.length
  · rw [if_pos (by omega), same_loop l m hl he l.length k 0 (by omega) (by omega) (by omega) hk]; rfl
  · rw [if_neg (by omega)]; congr 1; symm; rw [decide_eq_false_iff_not]; intro h; exact he (by rw [h])
theorem byte_toNat (x : Int) (h : 0 ≤ x ∧ x < 256) : (BitVec.ofInt 32 x).toNat = x.toNat := by
  have := nt_ofInt x h.1 (by omega)
  unfold nt at this; omega
theorem rd_words (l : List Int) (i : Nat) (hi : i < l.length) : (words l).getD i 0#32 = BitVec.ofInt 32 (rd l (i : Int)) := by
  unfold words rd
  rw [Int.toNat_natCast, List.getD_eq_getElem?_getD, List.getD_eq_getElem?_getD, List.getElem?_map, List.getElem?_eq_getElem hi]; rfl
theorem xor_or4 (w0 w1 w2 w3 : BitVec 32) (t0 : w0.toNat < 2 ^ 8) (t1 : w1.toNat < 2 ^ 8) (t2 : w2.toNat < 2 ^ 8) :
    w0 ^^^ (w1 <<< 8) ^^^ (w2 <<< 16) ^^^ (w3 <<< 24) = w0 ||| (w1 <<< 8) ||| (w2 <<< 16) ||| (w3 <<< 24) := by
  have lt0 : ∀ i, 8 ≤ i → w0.getLsbD i = false := fun i hi => by rw [← BitVec.testBit_toNat]; exact Nat.testBit_lt_two_pow (Nat.lt_of_lt_of_le t0 (Nat.pow_le_pow_right (by omega) hi))
  have lt1 : ∀ i, 8 ≤ i → w1.getLsbD i = false := fun i hi => by rw [← BitVec.testBit_toNat]; exact Nat.testBit_lt_two_pow (Nat.lt_of_lt_of_le t1 (Nat.pow_le_pow_right (by omega) hi))
  have lt2 : ∀ i, 8 ≤ i → w2.getLsbD i = false := fun i hi => by rw [← BitVec.testBit_toNat]; exact Nat.testBit_lt_two_pow (Nat.lt_of_lt_of_le t2 (Nat.pow_le_pow_right (by omega) hi))
  ext i hi
  simp only [← BitVec.getLsbD_eq_getElem, BitVec.getLsbD_xor, BitVec.getLsbD_or, BitVec.getLsbD_shiftLeft, hi, decide_true, Bool.true_and]
  by_cases a8 : i < 8
  · have h16 : i < 16 := by omega
    have h24 : i < 24 := by omega
    simp [a8, h16, h24]
  · have e0 := lt0 i (by omega)
    by_cases a16 : i < 16
    · have h24 : i < 24 := by omega
      simp only [a8, a16, h24, e0, decide_false, decide_true, Bool.not_false, Bool.not_true, Bool.true_and, Bool.false_and, Bool.false_xor, Bool.xor_false, Bool.or_false, Bool.false_or]
    · have e1 := lt1 (i - 8) (by omega)
      by_cases a24 : i < 24
      · simp only [a8, a16, a24, e0, e1, decide_false, decide_true, Bool.not_false, Bool.not_true, Bool.true_and, Bool.false_and, Bool.false_xor, Bool.xor_false, Bool.or_false, Bool.false_or]
      · have e2 := lt2 (i - 16) (by omega)
        simp only [a8, a16, a24, e0, e1, e2, decide_false, decide_true, Bool.not_false, Bool.not_true, Bool.true_and, Bool.false_and, Bool.false_xor, Bool.xor_false, Bool.or_false, Bool.false_or]
/-- The sum's bytes as words. -/
theorem le4_run (c s : BitVec 32) : crcW s (words (le4 c)) = stps 32 (s ^^^ c) := by
  have hb := nt_bounds c
  obtain ⟨w0, hw0⟩ : ∃ w, w = BitVec.ofInt 32 (nt c % 256) := ⟨_, rfl⟩
  obtain ⟨w1, hw1⟩ : ∃ w, w = BitVec.ofInt 32 (nt c / 256 % 256) := ⟨_, rfl⟩
  obtain ⟨w2, hw2⟩ : ∃ w, w = BitVec.ofInt 32 (nt c / 65536 % 256) := ⟨_, rfl⟩
  obtain ⟨w3, hw3⟩ : ∃ w, w = BitVec.ofInt 32 (nt c / 16777216 % 256) := ⟨_, rfl⟩
  have t0 : w0.toNat = (nt c % 256).toNat := by rw [hw0, byte_toNat _ (by omega)]
  have t1 : w1.toNat = (nt c / 256 % 256).toNat := by rw [hw1, byte_toNat _ (by omega)]
  have t2 : w2.toNat = (nt c / 65536 % 256).toNat := by rw [hw2, byte_toNat _ (by omega)]
  have t3 : w3.toNat = (nt c / 16777216 % 256).toNat := by rw [hw3, byte_toNat _ (by omega)]
  have hsum : c = w0 ^^^ (w1 <<< 8) ^^^ (w2 <<< 16) ^^^ (w3 <<< 24) := by
    have d1 := xor_or4 w0 w1 w2 w3 (by omega) (by omega) (by omega)
    have e : nt (w0 ||| (w1 <<< 8) ||| (w2 <<< 16) ||| (w3 <<< 24)) = nt c := by
      have s1 : nt (w1 <<< 8) = (((nt c / 256 % 256).toNat * 2 ^ 8 : Nat) : Int) := by
        unfold nt at t1 ⊢; rw [BitVec.toNat_shiftLeft, t1, Nat.shiftLeft_eq]; omega
      have s2 : nt (w2 <<< 16) = (((nt c / 65536 % 256).toNat * 2 ^ 16 : Nat) : Int) := by
        unfold nt at t2 ⊢; rw [BitVec.toNat_shiftLeft, t2, Nat.shiftLeft_eq]; omega
      have s3 : nt (w3 <<< 24) = (((nt c / 16777216 % 256).toNat * 2 ^ 24 : Nat) : Int) := by
        unfold nt at t3 ⊢; rw [BitVec.toNat_shiftLeft, t3, Nat.shiftLeft_eq]; omega
      have s0 : nt w0 = (((nt c % 256).toNat : Nat) : Int) := by
        unfold nt at t0 ⊢; rw [t0]
      rw [← or_nt, ← or_nt, ← or_nt, s0, s1, s2, s3, or_add _ _ 8 (by omega) (by omega), or_add _ _ 16 (by omega) (by omega), or_add _ _ 24 (by omega) (by omega)]
      omega
    rw [d1]; exact (nt_inj _ _ e).symm
  have hl : words (le4 c) = [w0, w1, w2, w3] := by rw [hw0, hw1, hw2, hw3]; rfl
  rw [hl]
  show stps 8 (stps 8 (stps 8 (stps 8 (s ^^^ w0) ^^^ w1) ^^^ w2) ^^^ w3) = _
  have u1 : w1 = stps 8 (w1 <<< 8) := (stps_shl 8 w1 (by omega) (by omega)).symm
  have u2 : w2 = stps 16 (w2 <<< 16) := (stps_shl 16 w2 (by omega) (by omega)).symm
  have u3 : w3 = stps 24 (w3 <<< 24) := (stps_shl 24 w3 (by omega) (by omega)).symm
  have g1 : stps 8 (s ^^^ w0) ^^^ w1 = stps 8 (s ^^^ w0 ^^^ w1 <<< 8) := by rw [stps_xor 8 (s ^^^ w0)]; congr 1
  have g2 : stps 8 (stps 8 (s ^^^ w0 ^^^ w1 <<< 8)) ^^^ w2 = stps 16 (s ^^^ w0 ^^^ w1 <<< 8 ^^^ w2 <<< 16) := by
    rw [stps_xor 16 (s ^^^ w0 ^^^ w1 <<< 8), ← u2, show (16 : Nat) = 8 + 8 from rfl, stps_add]
  have g3 : stps 8 (stps 16 (s ^^^ w0 ^^^ w1 <<< 8 ^^^ w2 <<< 16)) ^^^ w3 = stps 24 (s ^^^ w0 ^^^ w1 <<< 8 ^^^ w2 <<< 16 ^^^ w3 <<< 24) := by
    rw [stps_xor 24 (s ^^^ w0 ^^^ w1 <<< 8 ^^^ w2 <<< 16), ← u3, show (24 : Nat) = 16 + 8 from rfl, stps_add]
  rw [g1, g2, g3]
  show _ = stps (24 + 8) (s ^^^ c)
  rw [stps_add]
  congr 2
  conv => rhs; rw [hsum]
  simp only [BitVec.xor_assoc]
theorem le4_val (a b c d : Int) (ha : 0 ≤ a ∧ a < 256) (hb : 0 ≤ b ∧ b < 256) (hc : 0 ≤ c ∧ c < 256) (hd : 0 ≤ d ∧ d < 256) : le4 (BitVec.ofInt 32 (val4 a b c d)) = [a, b, c, d] := by
  unfold le4
  rw [nt_ofInt _ (by unfold val4; omega) (by unfold val4; omega)]
  unfold val4
  rw [show (a + 256 * b + 65536 * c + 16777216 * d) % 256 = a by omega, show (a + 256 * b + 65536 * c + 16777216 * d) / 256 % 256 = b by omega, show (a + 256 * b + 65536 * c + 16777216 * d) / 65536 % 256 = c by omega, show (a + 256 * b + 65536 * c + 16777216 * d) / 16777216 % 256 = d by omega]
/-- What is left where all stands right. -/
def rest32 : BitVec 32 := stps 32 (BitVec.allOnes 32)
theorem open_run (l : List Int) (hl : l.length ≤ 140737488355000) (hw : ∀ x ∈ l, 0 ≤ x ∧ x < 256) (k : Nat) (hk : 10 * l.length + 2 < k) (h4 : 4 ≤ l.length) :
    ∃ q, sum_Open.f k l = some (q, decide (crcW (BitVec.allOnes 32) (words l) = rest32)) := by
  rw [open_eq l hl hw k hk h4]
  have b0 := rd_byte l hw ((l.length : Int) - 4)
  have b1 := rd_byte l hw ((l.length : Int) - 4 + 1)
  have b2 := rd_byte l hw ((l.length : Int) - 4 + 2)
  have b3 := rd_byte l hw ((l.length : Int) - 4 + 3)
  have hdrop : l.drop (l.length - 4) = [rd l ((l.length : Int) - 4), rd l ((l.length : Int) - 4 + 1), rd l ((l.length : Int) - 4 + 2), rd l ((l.length : Int) - 4 + 3)] := by
    have e0 := rd_drop l ((l.length : Int) - 4) (by omega) (by omega)
    have e1 := rd_drop l ((l.length : Int) - 4 + 1) (by omega) (by omega)
    have e2 := rd_drop l ((l.length : Int) - 4 + 1 + 1) (by omega) (by omega)
    have e3 := rd_drop l ((l.length : Int) - 4 + 1 + 1 + 1) (by omega) (by omega)
    rw [show ((l.length : Int) - 4).toNat = l.length - 4 by omega] at e0
    rw [e0, e1, e2, e3, List.drop_of_length_le (by omega)]
    rw [show (l.length : Int) - 4 + 1 + 1 = (l.length : Int) - 4 + 2 by omega, show (l.length : Int) - 4 + 2 + 1 = (l.length : Int) - 4 + 3 by omega]
  have hsplit : l = l.take (l.length - 4) ++ le4 (BitVec.ofInt 32 (val4 (rd l ((l.length : Int) - 4)) (rd l ((l.length : Int) - 4 + 1)) (rd l ((l.length : Int) - 4 + 2)) (rd l ((l.length : Int) - 4 + 3)))) := by
    rw [le4_val _ _ _ _ b0 b1 b2 b3, ← hdrop, List.take_append_drop]
  obtain ⟨v, hv⟩ : ∃ v, v = val4 (rd l ((l.length : Int) - 4)) (rd l ((l.length : Int) - 4 + 1)) (rd l ((l.length : Int) - 4 + 2)) (rd l ((l.length : Int) - 4 + 3)) := ⟨_, rfl⟩
  have hvb : 0 ≤ v ∧ v < 4294967296 := by rw [hv]; unfold val4; omega
  rw [← hv] at hsplit ⊢
  have hrun : crcW (BitVec.allOnes 32) (words l) = stps 32 (crcW (BitVec.allOnes 32) (words (l.take (l.length - 4))) ^^^ BitVec.ofInt 32 v) := by
    conv => lhs; rw [hsplit]
    rw [words_append, crcW_append, le4_run]
  have hs0 : sumOf 0#32 (l.take (l.length - 4)) = ~~~ crcW (BitVec.allOnes 32) (words (l.take (l.length - 4))) := rfl
  generalize crcW (BitVec.allOnes 32) (words (l.take (l.length - 4))) = s at *
  rw [hs0, hrun]
  by_cases h : nt (~~~ s) = v
  · rw [if_pos h]
    refine ⟨l.take (l.length - 4), ?_⟩
    congr 2; symm; rw [decide_eq_true_iff]
    have : BitVec.ofInt 32 v = ~~~ s := by rw [← h, ofInt_nt]
    rw [this]; unfold rest32; congr 1
    rw [← BitVec.allOnes_xor, BitVec.xor_comm (BitVec.allOnes 32), ← BitVec.xor_assoc, BitVec.xor_self, BitVec.zero_xor]
  · rw [if_neg h]
    refine ⟨[], ?_⟩
    congr 2; symm; rw [decide_eq_false_iff_not]
    intro he
    have h2 := stps_inj 32 _ _ he
    apply h
    have h3 : BitVec.ofInt 32 v = ~~~ s := by
      rw [← BitVec.allOnes_xor, ← h2, BitVec.xor_comm s, BitVec.xor_assoc, BitVec.xor_self, BitVec.xor_zero]
    rw [← h3, nt_ofInt v hvb.1 hvb.2]
theorem sealed_run (l : List Int) : crcW (BitVec.allOnes 32) (words (l ++ le4 (sumOf 0#32 l))) = rest32 := by
  rw [words_append, crcW_append, le4_run]
  unfold rest32; congr 1
  show crcW (BitVec.allOnes 32) (words l) ^^^ ~~~ crcW (BitVec.allOnes 32) (words l) = _
  rw [← BitVec.allOnes_xor, ← BitVec.xor_assoc, BitVec.xor_comm _ (BitVec.allOnes 32), BitVec.xor_assoc, BitVec.xor_self, BitVec.xor_zero]
theorem turn_byte : ∀ (b : Fin 256) (r : Fin 8), BitVec.ofInt 32 (Go.bits .xor .u8 (b.val : Int) (shl .u8 1 (r.val : Int))) = BitVec.ofInt 32 (b.val : Int) ^^^ (1#32 <<< r.val) ∧
    0 ≤ Go.bits .xor .u8 (b.val : Int) (shl .u8 1 (r.val : Int)) ∧ Go.bits .xor .u8 (b.val : Int) (shl .u8 1 (r.val : Int)) < 256 := by decide +kernel
theorem turn_at (x r : Int) (hx : 0 ≤ x ∧ x < 256) (hr : 0 ≤ r ∧ r < 8) : BitVec.ofInt 32 (Go.bits .xor .u8 x (shl .u8 1 r)) = BitVec.ofInt 32 x ^^^ (1#32 <<< r.toNat) ∧
    0 ≤ Go.bits .xor .u8 x (shl .u8 1 r) ∧ Go.bits .xor .u8 x (shl .u8 1 r) < 256 := by
  have h := turn_byte ⟨x.toNat, by omega⟩ ⟨r.toNat, by omega⟩
  simp only at h
  rw [show ((x.toNat : Nat) : Int) = x by omega, show ((r.toNat : Nat) : Int) = r by omega] at h
  exact h
theorem words_set (l : List Int) (i : Nat) (x : Int) : words (l.set i x) = (words l).set i (BitVec.ofInt 32 x) := by unfold words; rw [List.map_set]
theorem mem_set_byte (l : List Int) (hw : ∀ x ∈ l, 0 ≤ x ∧ x < 256) (i : Nat) (v : Int) (hv : 0 ≤ v ∧ v < 256) : ∀ x ∈ l.set i v, 0 ≤ x ∧ x < 256 := by
  intro x hx
  rcases List.mem_or_eq_of_mem_set hx with h | h
  · exact hw x h
  · rw [h]; exact hv
/-- A bit of the bytes is turned. -/
theorem turn_run (l : List Int) (hw : ∀ x ∈ l, 0 ≤ x ∧ x < 256) (b : Nat) (hb : b < 8 * l.length) (s : BitVec 32) :
    crcW s (words (l.set (b / 8) (Go.bits .xor .u8 (rd l ((b / 8 : Nat) : Int)) (shl .u8 1 ((b % 8 : Nat) : Int))))) = crcW s (words l) ^^^ stps (8 * l.length - b) 1#32 ∧
    ∀ x ∈ l.set (b / 8) (Go.bits .xor .u8 (rd l ((b / 8 : Nat) : Int)) (shl .u8 1 ((b % 8 : Nat) : Int))), 0 ≤ x ∧ x < 256 := by
  have h := turn_at (rd l ((b / 8 : Nat) : Int)) ((b % 8 : Nat) : Int) (rd_byte l hw _) (by omega)
  refine ⟨?_, mem_set_byte l hw _ _ h.2⟩
  rw [words_set, h.1, Int.toNat_natCast, ← rd_words l (b / 8) (by omega)]
  have hlen : (words l).length = l.length := by unfold words; rw [List.length_map]
  rw [bit_set (words l) b s (by rw [hlen]; omega), hlen]
theorem shr_bit (s : BitVec 32) (j : Nat) (hj : j < 32) : Go.bits .and .u32 (shr .u32 (nt s) (j : Int)) 1 = if s.getLsbD j = true then 1 else 0 := by
  have h : shr .u32 (nt s) (j : Int) = nt (s >>> j) := by
    unfold shr nt
    rw [Int.toNat_natCast, show min j (IntKind.bits .u32) = j from Nat.min_eq_left (by show j ≤ 32; omega), BitVec.toNat_ushiftRight, Nat.shiftRight_eq_div_pow, Int.natCast_ediv, Int.natCast_pow]; rfl
  rw [h, and_one, BitVec.getLsbD_ushiftRight, Nat.add_zero]
theorem burst_loop (B : BitVec 32) (l0 : List Int) (n : Nat) (hn : n ≤ 140737488355000) (h4 : 4 ≤ n) (hrun0 : crcW (BitVec.allOnes 32) (words l0) = rest32) (bit : Nat) (hbit : bit < 8 * n)
    (K : Nat) (hK : ∀ k, K ≤ k → draylaw2_SumRuns.f k = some true) (d : Nat) : ∀ (k : Nat) (l : List Int) (j : Nat) (W : BitVec 32), j + d = 32 → K + 10 * n + 4 + d < k →
    l.length = n → (∀ x ∈ l, 0 ≤ x ∧ x < 256) → (∀ i, j ≤ i → W.getLsbD i = false) → crcW (BitVec.allOnes 32) (words l) = rest32 ^^^ stps (8 * n - bit) W →
    draylaw2_SumBursts.l0 k (nt B) l (bit : Int) (decide (W ≠ 0#32)) (j : Int) = some true := by
  induction d with
  | zero =>
    intro k l j W hj hk hl hw hW hrun
    obtain ⟨k, rfl⟩ : ∃ q, k = q + 1 := ⟨k - 1, by omega⟩
    rw [draylaw2_SumBursts.l0, if_neg (by omega)]
    obtain ⟨q, hq⟩ := open_run l (by omega) hw k (by omega) (by omega)
    rw [hq]; simp only [Option.bind_some]
    have he : decide (crcW (BitVec.allOnes 32) (words l) = rest32) = !decide (W ≠ 0#32) := by
      rw [hrun]
      by_cases h : W = 0#32
      · rw [h, stps_zero, BitVec.xor_zero]; simp
      · have h2 : ¬ rest32 ^^^ stps (8 * n - bit) W = rest32 := by
          intro e
          apply h
          apply stps_eq_zero (8 * n - bit)
          have e2 : rest32 ^^^ (rest32 ^^^ stps (8 * n - bit) W) = rest32 ^^^ rest32 := by rw [e]
          rw [← BitVec.xor_assoc, BitVec.xor_self, BitVec.zero_xor] at e2
          exact e2
        simp [h, h2]
    rw [he, beq_self_eq_true, if_pos rfl, hK k (by omega)]; rfl
  | succ d ih =>
    intro k l j W hj hk hl hw hW hrun
    obtain ⟨k, rfl⟩ : ∃ q, k = q + 1 := ⟨k - 1, by omega⟩
    have hnext : wrap64 ((j : Int) + 1) = ((j + 1 : Nat) : Int) := by rw [wrap_small _ (by omega)]; omega
    rw [draylaw2_SumBursts.l0, if_pos (by omega), if_pos (by omega), shr_bit B j (by omega), hnext]
    by_cases hb : B.getLsbD j = true
    · rw [if_pos hb, if_pos rfl, wrap_small ((bit : Int) + (j : Int)) (by omega), wrap_small (8 * (l.length : Int)) (by omega)]
      by_cases hin : bit + j < 8 * n
      · have ed : Int.tdiv ((bit : Int) + (j : Int)) 8 = (((bit + j) / 8 : Nat) : Int) := by
          rw [Int.tdiv_eq_ediv_of_nonneg (by omega)]; omega
        have em : Int.tmod ((bit : Int) + (j : Int)) 8 = (((bit + j) % 8 : Nat) : Int) := by
          rw [Int.tmod_eq_emod_of_nonneg (by omega)]; omega
        rw [if_pos (by omega), ed, em, wrap_small (((bit + j) / 8 : Nat) : Int) (by omega), if_pos (by omega), if_pos (by omega), if_pos (by omega), Int.toNat_natCast]
        have ht := turn_run l hw (bit + j) (by omega) (BitVec.allOnes 32)
        have hone : W ^^^ (1#32 <<< j) ≠ 0#32 := by
          intro e
          have e2 : (W ^^^ (1#32 <<< j)).getLsbD j = false := by rw [e]; simp
          rw [BitVec.getLsbD_xor, hW j (by omega), BitVec.getLsbD_shiftLeft] at e2
          simp at e2; omega
        have := ih k _ (j + 1) (W ^^^ (1#32 <<< j)) (by omega) (by omega) (by rw [List.length_set]; exact hl) ht.2 (by
          intro i hi
          rw [BitVec.getLsbD_xor, hW i (by omega), BitVec.getLsbD_shiftLeft]
          by_cases hi32 : i < 32
          · have h1 : ¬ i < j := by omega
            have h2 : (1#32 : BitVec 32).getLsbD (i - j) = false := by
              rw [BitVec.getLsbD_one]; simp; omega
            simp [h1, h2]
          · simp [hi32]) (by
          rw [ht.1, hrun, hl, show 8 * n - (bit + j) = (8 * n - bit) - j by omega, bit_end (8 * n - bit) j (by omega) (by omega), BitVec.xor_assoc, ← stps_xor])
        rw [show decide (W ^^^ (1#32 <<< j) ≠ 0#32) = true from decide_eq_true hone] at this
        exact this
      · rw [if_neg (by omega)]
        exact ih k l (j + 1) W (by omega) (by omega) hl hw (fun i hi => hW i (by omega)) hrun
    · rw [if_neg hb, if_neg (by decide)]
      exact ih k l (j + 1) W (by omega) (by omega) hl hw (fun i hi => hW i (by omega)) hrun
theorem le4_bytes (c : BitVec 32) : ∀ x ∈ le4 c, 0 ≤ x ∧ x < 256 := by
  have hb := nt_bounds c
  intro x hx
  unfold le4 at hx
  simp only [List.mem_cons, List.not_mem_nil, or_false] at hx
  rcases hx with rfl | rfl | rfl | rfl <;> omega
theorem u32_bounds (c : Int) (h : (Lit.int .u32 c).wf = true) : 0 ≤ c ∧ c < 4294967296 := by
  simp only [Lit.wf, IntKind.min, IntKind.max, IntKind.signed, IntKind.bits, Bool.and_eq_true, decide_eq_true_eq] at h
  simp at h; omega
theorem wrap4 (n : Nat) (h : n ≤ 140737488351232) : wrap64 ((n : Int) + 4) = (n : Int) + 4 := wrap_small _ (by omega)
theorem wrap8 (n : Nat) (h : n ≤ 140737488355000) : wrap64 (8 * (n : Int)) = 8 * (n : Int) := wrap_small _ (by omega)
theorem wrap8' (n : Nat) (h : n ≤ 140737488355000) : wrap64 (8 * (n : Int) - 1) = 8 * (n : Int) - 1 := wrap_small _ (by omega)
theorem bursts_j (l s : List Int) (a : Int) (B : BitVec 32) (K k : Nat) (hK : ∀ k, K ≤ k → draylaw2_SumRuns.f k = some true) (hk : K + 10 * s.length + 40 < k) (h4 : 4 ≤ s.length) (hl : s.length ≤ 140737488355000)
    (hbytes : ∀ x ∈ s, 0 ≤ x ∧ x < 256) (hrun : crcW (BitVec.allOnes 32) (words s) = rest32) : draylaw2_SumBursts.j0 (k + 1) l a (nt B) s false = some true := by
  obtain ⟨t, ht, t0, t1⟩ := within_in a 0 (8 * (s.length : Int) - 1) (by omega) (by omega) (by omega)
  obtain ⟨t, rfl⟩ := Int.eq_ofNat_of_zero_le t0
  have hloop := burst_loop B s s.length hl h4 hrun t (by omega) K hK 32 k s 0 0#32 (by omega) (by omega) rfl hbytes (by intro i _; simp) (by rw [stps_zero, BitVec.xor_zero]; exact hrun)
  rw [show decide ((0#32 : BitVec 32) ≠ 0#32) = false from by decide] at hloop
  rw [draylaw2_SumBursts.j0, if_neg Bool.false_ne_true, wrap8 _ hl, wrap8' _ hl, ht]
  exact hloop
theorem bursts_j0 (l s : List Int) (a c : Int) (k : Nat) (hK : draylaw2_SumRuns.f k = some true) (hlen : s.length = l.length + 4) (hl : l.length ≤ 140737488351232) : draylaw2_SumBursts.j0 (k + 1) l a c s true = some true := by
  rw [draylaw2_SumBursts.j0, if_pos rfl, wrap4 _ hl, if_pos (show (s.length : Int) = (l.length : Int) + 4 by omega), hK]; rfl
theorem bursts_core (l s : List Int) (a : Int) (B : BitVec 32) (K k : Nat) (hK : ∀ k, K ≤ k → draylaw2_SumRuns.f k = some true) (hk : k = K + 10 * l.length + 100) (hl : l.length ≤ 140737488351232)
    (hs : sum_Seal.f (k + 1) l = some s) (hlen : s.length = l.length + 4) (hbytes : ∀ x ∈ s, 0 ≤ x ∧ x < 256) (hrun : crcW (BitVec.allOnes 32) (words s) = rest32) : draylaw2_SumBursts.f (k + 1) l a (nt B) = some true := by
  have hj := bursts_j l s a B K k hK (by omega) (by omega) (by omega) hbytes hrun
  have hj0 := bursts_j0 l s a (nt B) k (hK k (by omega)) hlen hl
  have e2 : (s.length : Int) = (l.length : Int) + 4 := by omega
  unfold draylaw2_SumBursts.f
  rw [hs, Option.bind_some, wrap4 _ hl, if_pos e2]
  cases nt B == 0
  · exact hj
  · exact hj0
theorem sealed_length (l : List Int) (c : BitVec 32) : (l ++ le4 c).length = l.length + 4 := by
  rw [List.length_append]; unfold le4; simp only [List.length_cons, List.length_nil]
theorem sealed_bytes (l : List Int) (c : BitVec 32) (hw : ∀ x ∈ l, (Lit.int .u8 x).wf = true) : ∀ x ∈ l ++ le4 c, 0 ≤ x ∧ x < 256 := by
  intro x hx
  rcases List.mem_append.1 hx with h | h
  · exact u8_bounds x (hw x h)
  · exact le4_bytes _ x h
theorem SumBursts (l : List Int) (a c : Int) (hl : l.length * 1 ≤ 140737488351232) (hw : ∀ x ∈ l, (Lit.int .u8 x).wf = true) (_ : (Lit.int .i64 a).wf = true) (hc : (Lit.int .u32 c).wf = true) : ∃ k, draylaw2_SumBursts.f k l a c = some true := by
  obtain ⟨K, hK⟩ := runs
  obtain ⟨k, hk⟩ : ∃ k, k = K + 10 * l.length + 100 := ⟨_, rfl⟩
  refine ⟨k + 1, ?_⟩
  have hb := u32_bounds c hc
  have hB := nt_ofInt c hb.1 hb.2
  have hseal := seal_eq l (by omega) (k + 1) (by omega)
  rw [← hB]
  exact bursts_core l _ a _ K k hK hk (by omega) hseal (sealed_length l _) (sealed_bytes l _ hw) (sealed_run l)

end Go.Proofs.Ytdfpobcfcjmbdaa.Pure
