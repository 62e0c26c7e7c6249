/- Packages sum and drayref2, walked: Of, the document's own Add. -/
import Derived.Test.YtghkgfeamijefaaSum
set_option linter.unusedVariables false
set_option linter.unusedSimpArgs false
namespace Go.Proofs.Ytghkgfeamijefaa
open Go.RowKit B
theorem stp_one {s : BitVec 32} (h : s.getLsbD 0 = true) : Go.bits .xor .u32 (nt s / 2) 3988292384 = nt (stp s) := by
  rw [← step_eq, and_one, if_pos h]; rfl
theorem stp_zero' {s : BitVec 32} (h : s.getLsbD 0 = false) : nt s / 2 = nt (stp s) := by
  unfold stp
  rw [h, half]
  simp
set_option maxRecDepth 100000 in
set_option maxHeartbeats 4000000 in
theorem radd_any (c : BitVec 32) (A : Option Addr) (cap : Nat) (l : List Int) (w : World) (hrow : Row w A (B8 l)) (hb : Byt l) (hlen : l.length ≤ 140737488355328) :
    Calls Try.prog 71 #[.int .u32 (nt c), .slice A l.length cap] w fun e w' => e = .returned (.int .u32 (nt (sumOf c l))) ∧ w = w' := by
  have HROW := Lib.hid hrow
  have HB := Lib.hid hb
  clear hrow hb
  have hnot := not_max c
  go_enter Try.func71, Try.ntmps71
  go_wp2_with fail
  clear hnot
  go_loop [5, 6] (fun v5 v6 => ∃ k : Nat, k ≤ l.length ∧ v6 = .int .i64 k ∧ v5 = .int .u32 (nt (crcW (~~~ c) (words (l.take k))))) (fun _ v6 => l.length - (intOf v6).toNat)
  case atStart => exact ⟨0, Nat.zero_le _, by go_num, rfl⟩
  case round =>
    obtain ⟨k, hk, rfl, rfl⟩ := hrel
    by_cases hlt : k < l.length
    · obtain ⟨ad, rfl⟩ := HROW.out.some (by rw [B8_length]; omega)
      obtain ⟨b, hbb⟩ : ∃ b, b = l[k] := ⟨_, rfl⟩
      have hcell : w.cell? (ad.add k) = some (.int .u8 b) := by
        have := HROW.out.at_ (i := k) (by rw [B8_length]; exact hlt)
        rw [this, hbb]
        simp [B8]
      have hb2 := HB.out b (by rw [hbb]; exact List.getElem_mem _)
      obtain ⟨hb0, hb1⟩ := hb2
      have hstep : Hid (crcW (~~~ c) (words (l.take (k + 1))) = stps 8 (crcW (~~~ c) (words (l.take k)) ^^^ BitVec.ofInt 32 b)) := Lib.hid (by rw [hbb]; exact crc_next _ l k hlt)
      obtain ⟨S, hS⟩ : ∃ S, S = crcW (~~~ c) (words (l.take k)) := ⟨_, rfl⟩
      rw [← hS] at hstep ⊢
      have hxor : Go.bits .xor .u32 (nt S) b = nt (S ^^^ BitVec.ofInt 32 b) := by
        have := xor_byte S b
        rwa [show b % 4294967296 = b by omega] at this
      clear hS hbb
      go_wp2_with fail
      clear hxor
      go_loop [5, 7] (fun v5 v7 => ∃ j : Nat, j ≤ 8 ∧ v7 = .int .i64 j ∧ v5 = .int .u32 (nt (stps j (S ^^^ BitVec.ofInt 32 b)))) (fun _ v7 => 8 - (intOf v7).toNat)
      case atStart => exact ⟨0, by omega, by go_num, rfl⟩
      case round =>
        obtain ⟨j, hj, rfl, rfl⟩ := hrel
        by_cases hj8 : j < 8
        · have hsu := Lib.hid (stps_succ j (S ^^^ BitVec.ofInt 32 b))
          obtain ⟨X, hX⟩ : ∃ X, X = stps j (S ^^^ BitVec.ofInt 32 b) := ⟨_, rfl⟩
          rw [← hX] at hsu ⊢
          clear hX
          cases hbit : X.getLsbD 0 with
          | true =>
            have hand : (Go.bits .and .u32 (nt X) 1 == 1) = true := by rw [and_one, if_pos hbit]; rfl
            have hst := Lib.hid (stp_one hbit)
            clear hbit
            go_wp2_with fail
            exact ⟨⟨j + 1, by omega, by go_num, by rw [hsu.out, hst.out]⟩, by simp [intOf]; omega⟩
          | false =>
            have hand : (Go.bits .and .u32 (nt X) 1 == 1) = false := by rw [and_one, hbit]; rfl
            have hst := Lib.hid (stp_zero' hbit)
            clear hbit
            go_wp2_with fail
            exact ⟨⟨j + 1, by omega, by go_num, by rw [hsu.out, hst.out]⟩, by simp [intOf]; omega⟩
        · obtain rfl : j = 8 := by omega
          go_wp2_with fail
          exact ⟨⟨k + 1, by omega, by go_num, by rw [hstep.out]⟩, by simp [intOf]; omega⟩
    · obtain rfl : k = l.length := by omega
      rw [List.take_length]
      have hnot := not_max (crcW (~~~ c) (words l))
      go_wp2_with fail
      go_ret
      exact ⟨rfl, rfl⟩
/-- A row of lists of bytes. -/
def Parts (w : World) (PA : Option Addr) (ps : List (List Int)) : Prop := ∀ i l, ps[i]? = some l → ∃ ad A c, PA = some ad ∧ w.cell? (ad.add i) = some (.slice A l.length c) ∧ Row w A (B8 l) ∧ Byt l ∧ l.length ≤ 140737488355328
theorem sumOf_next (ps : List (List Int)) (i : Nat) (h : i < ps.length) : sumOf 0#32 (ps.take (i + 1)).flatten = sumOf (sumOf 0#32 (ps.take i).flatten) ps[i] := by
  rw [List.take_succ_eq_append_getElem h, List.flatten_append, sumOf_append]
  simp
set_option maxRecDepth 100000 in
set_option maxHeartbeats 4000000 in
theorem of_any (PA : Option Addr) (cap : Nat) (ps : List (List Int)) (w : World) (hp : Parts w PA ps) (hlen : ps.length ≤ 140737488355328) :
    Calls Try.prog 70 #[.slice PA ps.length cap] w fun e w' => e = .returned (.int .u32 (nt (sumOf 0#32 ps.flatten))) ∧ w = w' := by
  have HP := Lib.hid hp
  clear hp
  go_enter Try.func70, Try.ntmps70
  go_wp2_with fail
  go_loop [3, 8] (fun v3 v8 => ∃ k : Nat, k ≤ ps.length ∧ v8 = .int .i64 k ∧ v3 = .int .u32 (nt (sumOf 0#32 (ps.take k).flatten))) (fun _ v8 => ps.length - (intOf v8).toNat)
  case atStart => exact ⟨0, Nat.zero_le _, by go_num, by rw [List.take_zero, List.flatten_nil, sumOf_nil]; rfl⟩
  case round =>
    obtain ⟨k, hk, rfl, rfl⟩ := hrel
    by_cases hlt : k < ps.length
    · obtain ⟨ad, A, c, rfl, hcell, hr, hb, hl⟩ := HP.out k ps[k] (List.getElem?_eq_getElem hlt)
      have HR := Lib.hid hr
      have HB := Lib.hid hb
      have HN := Lib.hid (sumOf_next ps k hlt)
      obtain ⟨l, hll⟩ : ∃ l, l = ps[k] := ⟨_, rfl⟩
      rw [← hll] at HN HR HB hcell hl
      clear hr hb hll
      go_wp2_with fail
      refine (add_any _ A c l _ HR.out HB.out hl).mono ?_
      rintro e w' ⟨rfl, rfl⟩
      go_wp2_with fail
      exact ⟨⟨k + 1, by omega, by go_num, by rw [HN.out]⟩, by simp [intOf]; omega⟩
    · obtain rfl : k = ps.length := by omega
      rw [List.take_length]
      go_wp2_with fail
      go_ret
      exact ⟨rfl, rfl⟩
end Go.Proofs.Ytghkgfeamijefaa
