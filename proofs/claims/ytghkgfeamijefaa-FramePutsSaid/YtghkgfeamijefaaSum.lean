/- Package sum, walked: Add. -/
import Derived.Test.YtghkgfeamijefaaSumP
import Derived.Test.YtghkgfeamijefaaBook
import Derived.Test.YtghkgfeamijefaaReg2
set_option linter.unusedVariables false
set_option linter.unusedSimpArgs false
namespace Go.Proofs.Ytghkgfeamijefaa
open Go.RowKit B
theorem x0 (w : World) (o : Obj) : Ext None_ w (w.alloc o) := (Ext.refl _ _).alloc _
theorem crc_next (s : BitVec 32) (l : List Int) (i : Nat) (h : i < l.length) : crcW s (words (l.take (i + 1))) = stps 8 (crcW s (words (l.take i)) ^^^ BitVec.ofInt 32 l[i]) := by
  rw [List.take_succ_eq_append_getElem h, words_append, crcW_append]
  rfl
theorem nt_wrap (s : BitVec 32) : IntKind.u32.wrap (nt s) = nt s := by rw [IntKind.wrap_u32]; have := nt_bounds s; omega
theorem stps_succ (n : Nat) (s : BitVec 32) : stps (n + 1) s = stp (stps n s) := by rw [stps_add n 1 s]; rfl
theorem not_max (s : BitVec 32) : Go.bits .xor .u32 IntKind.u32.max (nt s) = nt (~~~ s) := by rw [show IntKind.u32.max = 4294967295 from rfl]; exact xor_max s
set_option maxRecDepth 100000 in
set_option maxHeartbeats 4000000 in
theorem add_some (c : BitVec 32) (ad : Addr) (cap : Nat) (l : List Int) (w : World) (hrow : Row w (some ad) (B8 l)) (hb : Byt l) (hlen : l.length ≤ 140737488355328) :
    Calls Try.prog 87 #[.int .u32 (nt c), .slice (some ad) l.length cap] w fun e w' => e = .returned (.int .u32 (nt (sumOf c l))) ∧ w = w' := by
  have HROW := Lib.hid hrow
  have HB := Lib.hid hb
  clear hrow hb
  have hnot := not_max c
  go_enter Try.func87, Try.ntmps87
  go_wp2_with fail
  clear hnot
  go_loop [5, 13] (fun v5 v13 => ∃ k : Nat, k ≤ l.length ∧ v13 = .int .i64 k ∧ v5 = .int .u32 (nt (crcW (~~~ c) (words (l.take k))))) (fun _ v13 => l.length - (intOf v13).toNat)
  case atStart => exact ⟨0, Nat.zero_le _, by go_num, rfl⟩
  case round =>
    obtain ⟨k, hk, rfl, rfl⟩ := hrel
    by_cases hlt : k < l.length
    · obtain ⟨b, hbb⟩ : ∃ b, b = l[k] := ⟨_, rfl⟩
      have hcell : w.cell? (ad.add k) = some (.int .u8 b) := by
        have := HROW.out.at_ (i := k) (by rw [B8_length]; exact hlt)
        rw [this, hbb]
        simp [B8]
      have hb2 := HB.out b (by rw [hbb]; exact List.getElem_mem _)
      obtain ⟨hb0, hb1⟩ := hb2
      have hstep : Hid (crcW (~~~ c) (words (l.take (k + 1))) = stps 8 (crcW (~~~ c) (words (l.take k)) ^^^ BitVec.ofInt 32 b)) := Lib.hid (by rw [hbb]; exact crc_next _ l k hlt)
      obtain ⟨S, hS⟩ : ∃ S, S = crcW (~~~ c) (words (l.take k)) := ⟨_, rfl⟩
      rw [← hS] at hstep ⊢
      have hxor : Go.bits .xor .u32 (nt S) b = nt (S ^^^ BitVec.ofInt 32 b) := by
        have := xor_byte S b
        rwa [show b % 4294967296 = b by omega] at this
      clear hS hbb
      go_wp2_with fail
      clear hxor
      go_loop [5, 21] (fun v5 v21 => ∃ j : Nat, j ≤ 8 ∧ v21 = .int .i64 j ∧ v5 = .int .u32 (nt (stps j (S ^^^ BitVec.ofInt 32 b)))) (fun _ v21 => 8 - (intOf v21).toNat)
      case atStart => exact ⟨0, by omega, by go_num, rfl⟩
      case round =>
        obtain ⟨j, hj, rfl, rfl⟩ := hrel
        by_cases hj8 : j < 8
        · have hsu := Lib.hid (stps_succ j (S ^^^ BitVec.ofInt 32 b))
          obtain ⟨X, hX⟩ : ∃ X, X = stps j (S ^^^ BitVec.ofInt 32 b) := ⟨_, rfl⟩
          rw [← hX] at hsu ⊢
          clear hX
          go_wp2_with fail
          exact ⟨⟨j + 1, by omega, by go_num, by rw [hsu.out, step_eq]⟩, by simp [intOf]; omega⟩
        · obtain rfl : j = 8 := by omega
          go_wp2_with fail
          exact ⟨⟨k + 1, by omega, by go_num, by rw [hstep.out]⟩, by simp [intOf]; omega⟩
    · obtain rfl : k = l.length := by omega
      rw [List.take_length]
      have hnot := not_max (crcW (~~~ c) (words l))
      go_wp2_with fail
      go_ret
      exact ⟨rfl, rfl⟩
theorem row_nil_of {w : World} {l : List Int} (h : Row w none (B8 l)) : l = [] := by
  cases l with
  | nil => rfl
  | cons x l =>
    obtain ⟨ad, e, _⟩ := h 0 (.int .u8 x) rfl
    cases e
set_option maxRecDepth 100000 in
set_option maxHeartbeats 4000000 in
theorem add_none (c : BitVec 32) (cap : Nat) (w : World) :
    Calls Try.prog 87 #[.int .u32 (nt c), .slice none 0 cap] w fun e w' => e = .returned (.int .u32 (nt c)) ∧ w = w' := by
  have hnot := not_max c
  have hnot2 := not_max (~~~ c)
  rw [BitVec.not_not] at hnot2
  go_enter Try.func87, Try.ntmps87
  go_wp2_with fail
  refine wp_loop_rounds 1 ?_
  rw [rounds_succ]
  go_wp2_with fail
  go_ret
  exact ⟨rfl, rfl⟩
theorem add_any (c : BitVec 32) (A : Option Addr) (cap : Nat) (l : List Int) (w : World) (hrow : Row w A (B8 l)) (hb : Byt l) (hlen : l.length ≤ 140737488355328) :
    Calls Try.prog 87 #[.int .u32 (nt c), .slice A l.length cap] w fun e w' => e = .returned (.int .u32 (nt (sumOf c l))) ∧ w = w' := by
  cases A with
  | some ad => exact add_some c ad cap l w hrow hb hlen
  | none =>
    obtain rfl := row_nil_of hrow
    rw [sumOf_nil]
    exact add_none c cap w
end Go.Proofs.Ytghkgfeamijefaa
