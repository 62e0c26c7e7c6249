/- Frames in plain Lean: four bytes and their number; a record's frame; what Next finds. No program in sight. -/
import Derived.Test.YtghkgfeamijefaaSumP
set_option linter.unusedVariables false
set_option linter.unusedSimpArgs false
namespace Go.Proofs.Ytghkgfeamijefaa.B
open Go Go.RowKit
def rd (l : List Int) (i : Int) : Int := l.getD i.toNat 0
def le4 (s : BitVec 32) : List Int := [nt s % 256, nt s / 256 % 256, nt s / 65536 % 256, nt s / 16777216]
theorem le4_byt (s : BitVec 32) : Byt (le4 s) := by
  intro x hx
  have := nt_bounds s
  simp only [le4, List.mem_cons, List.not_mem_nil, or_false] at hx
  rcases hx with rfl | rfl | rfl | rfl <;> omega
theorem le4_len (c : BitVec 32) : (le4 c).length = 4 := rfl
theorem or_nt (s t : BitVec 32) : Go.bits .or .u32 (nt s) (nt t) = nt (s ||| t) := by
  show IntKind.u32.wrap (((BitVec.ofInt 32 (nt s)) ||| (BitVec.ofInt 32 (nt t))).toNat : Int) = _
  rw [ofInt_nt, ofInt_nt, IntKind.wrap_u32]
  have := (s ||| t).isLt
  unfold nt; omega
theorem or_add (a b : Nat) (i : Nat) (ha : a < 2 ^ i) (hs : a + b * 2 ^ i < 4294967296) : Go.bits .or .u32 (a : Int) ((b * 2 ^ i : Nat) : Int) = ((a + b * 2 ^ i : Nat) : Int) := by
  have h1 : nt (BitVec.ofNat 32 a) = (a : Int) := by unfold nt; rw [BitVec.toNat_ofNat, Nat.mod_eq_of_lt (by omega)]
  have h2 : nt (BitVec.ofNat 32 (b * 2 ^ i)) = ((b * 2 ^ i : Nat) : Int) := by unfold nt; rw [BitVec.toNat_ofNat, Nat.mod_eq_of_lt (by omega)]
  rw [← h1, ← h2, or_nt]
  unfold nt
  rw [BitVec.toNat_or, BitVec.toNat_ofNat, BitVec.toNat_ofNat, Nat.mod_eq_of_lt (show a < 2 ^ 32 by omega), Nat.mod_eq_of_lt (show b * 2 ^ i < 2 ^ 32 by omega)]
  have := Nat.two_pow_add_eq_or_of_lt ha b
  rw [Nat.mul_comm] at this
  rw [Nat.or_comm, ← this, Nat.add_comm]
def val4 (a b c d : Int) : Int := a + 256 * b + 65536 * c + 16777216 * d
theorem or_chain (a b c d : Int) (ha : 0 ≤ a ∧ a < 256) (hb : 0 ≤ b ∧ b < 256) (hc : 0 ≤ c ∧ c < 256) (hd : 0 ≤ d ∧ d < 256) :
    Go.bits .or .u32 (Go.bits .or .u32 (Go.bits .or .u32 (a % 4294967296) (((b % 4294967296) * 256) % 4294967296)) (((c % 4294967296) * 65536) % 4294967296)) (((d % 4294967296) * 16777216) % 4294967296) = val4 a b c d := by
  obtain ⟨a, rfl⟩ := Int.eq_ofNat_of_zero_le ha.1
  obtain ⟨b, rfl⟩ := Int.eq_ofNat_of_zero_le hb.1
  obtain ⟨c, rfl⟩ := Int.eq_ofNat_of_zero_le hc.1
  obtain ⟨d, rfl⟩ := Int.eq_ofNat_of_zero_le hd.1
  have e0 : ((a : Int) % 4294967296) = (a : Int) := by omega
  have e1 : ((b : Int) % 4294967296 * 256) % 4294967296 = ((b * 2 ^ 8 : Nat) : Int) := by omega
  have e2 : ((c : Int) % 4294967296 * 65536) % 4294967296 = ((c * 2 ^ 16 : Nat) : Int) := by omega
  have e3 : ((d : Int) % 4294967296 * 16777216) % 4294967296 = ((d * 2 ^ 24 : Nat) : Int) := by omega
  rw [e0, e1, e2, e3, or_add a b 8 (by omega) (by omega), or_add (a + b * 2 ^ 8) c 16 (by omega) (by omega), or_add (a + b * 2 ^ 8 + c * 2 ^ 16) d 24 (by omega) (by omega)]
  unfold val4; omega

theorem val4_inj (s : BitVec 32) (a b c d : Int) (ha : 0 ≤ a ∧ a < 256) (hb : 0 ≤ b ∧ b < 256) (hc : 0 ≤ c ∧ c < 256) (hd : 0 ≤ d ∧ d < 256) : nt s = val4 a b c d ↔ le4 s = [a, b, c, d] := by
  have := nt_bounds s
  unfold val4 le4
  constructor
  · intro h
    rw [h]
    simp only [List.cons.injEq, and_true]
    refine ⟨?_, ?_, ?_, ?_⟩ <;> omega
  · intro h
    simp only [List.cons.injEq, and_true] at h
    obtain ⟨h1, h2, h3, h4⟩ := h
    omega
theorem rd_byte (l : List Int) (hw : Byt l) (i : Int) : 0 ≤ rd l i ∧ rd l i < 256 := by
  unfold rd
  rw [List.getD_eq_getElem?_getD]
  rcases h : l[i.toNat]? with _ | x
  · simp
  · exact hw x (List.mem_of_getElem? h)
def hdp (p : List Int) : List Int := le4 (BitVec.ofInt 32 (p.length : Int))
def frameS (p : List Int) : List Int := hdp p ++ le4 (sumOf 0#32 (hdp p ++ p)) ++ p
theorem hdp_len (p : List Int) : (hdp p).length = 4 := rfl
theorem frameS_len (p : List Int) : (frameS p).length = 8 + p.length := by
  unfold frameS; rw [List.length_append, List.length_append, hdp_len, le4_len]
def hn (r : List Int) : Int := val4 (rd r 0) (rd r 1) (rd r 2) (rd r 3)
def bodyOf (r : List Int) : List Int := (r.take (8 + (hn r).toNat)).drop 8
end Go.Proofs.Ytghkgfeamijefaa.B
