/- The reference's frames, walked: Next. Written by gen_rnext.py. -/
import Derived.Test.YtghkgfeamijefaaFr2
import Derived.Test.YtghkgfeamijefaaDisk10
set_option linter.unusedVariables false
set_option linter.unusedSimpArgs false
namespace Go.Proofs.Ytghkgfeamijefaa
open Go.RowKit B
theorem binShl64 (P : Program) (t : TypeId) (n m : Int) (yk : IntKind) (w : World) (h0 : 0 ≤ m) (h1 : m ≤ 32) : (binOp .shl t (.int .i64 n) (.int yk m)).run P w = .ok (.int .i64 (IntKind.i64.wrap (n * 2 ^ m.toNat))) w := by
  rw [binOp_shl, shift_shl .i64 yk n m h0 (by exact Int.le_trans h1 (by decide))]
  rfl
theorem binOr64 (P : Program) (t : TypeId) (x y : Int) (w : World) : (binOp .or t (.int .i64 x) (.int .i64 y)).run P w = .ok (.int .i64 (Go.bits .or .i64 x y)) w := by
  simp [binOp, go_sem]
theorem or_add64 (a b : Nat) (i : Nat) (ha : a < 2 ^ i) (hs : a + b * 2 ^ i < 4294967296) : Go.bits .or .i64 (a : Int) ((b * 2 ^ i : Nat) : Int) = ((a + b * 2 ^ i : Nat) : Int) := by
  show IntKind.i64.wrap (((BitVec.ofInt 64 (a : Int)) ||| (BitVec.ofInt 64 ((b * 2 ^ i : Nat) : Int))).toNat : Int) = _
  rw [BitVec.ofInt_natCast, BitVec.ofInt_natCast, IntKind.wrap_i64, BitVec.toNat_or, BitVec.toNat_ofNat, BitVec.toNat_ofNat, Nat.mod_eq_of_lt (show a < 2 ^ 64 by omega), Nat.mod_eq_of_lt (show b * 2 ^ i < 2 ^ 64 by omega)]
  rw [show a ||| b * 2 ^ i = a + b * 2 ^ i from by
    rw [Nat.mul_comm, Nat.add_comm, Nat.two_pow_add_eq_or_of_lt ha, Nat.or_comm]]
  omega
theorem or_chain64 (a b c d : Int) (ha : 0 ≤ a ∧ a < 256) (hb : 0 ≤ b ∧ b < 256) (hc : 0 ≤ c ∧ c < 256) (hd : 0 ≤ d ∧ d < 256) :
    Go.bits .or .i64 a (b * 256) = a + 256 * b ∧ Go.bits .or .i64 (a + 256 * b) (c * 65536) = a + 256 * b + 65536 * c ∧ Go.bits .or .i64 (a + 256 * b + 65536 * c) (d * 16777216) = val4 a b c d := by
  obtain ⟨a, rfl⟩ := Int.eq_ofNat_of_zero_le ha.1
  obtain ⟨b, rfl⟩ := Int.eq_ofNat_of_zero_le hb.1
  obtain ⟨c, rfl⟩ := Int.eq_ofNat_of_zero_le hc.1
  obtain ⟨d, rfl⟩ := Int.eq_ofNat_of_zero_le hd.1
  have h1 := or_add64 a b 8 (by omega) (by omega)
  have h2 := or_add64 (a + b * 2 ^ 8) c 16 (by omega) (by omega)
  have h3 := or_add64 (a + b * 2 ^ 8 + c * 2 ^ 16) d 24 (by omega) (by omega)
  rw [show ((b * 2 ^ 8 : Nat) : Int) = (b : Int) * 256 by omega, show ((a + b * 2 ^ 8 : Nat) : Int) = (a : Int) + 256 * b by omega] at h1
  rw [show ((c * 2 ^ 16 : Nat) : Int) = (c : Int) * 65536 by omega, show ((a + b * 2 ^ 8 : Nat) : Int) = (a : Int) + 256 * b by omega, show ((a + b * 2 ^ 8 + c * 2 ^ 16 : Nat) : Int) = (a : Int) + 256 * b + 65536 * c by omega] at h2
  rw [show ((d * 2 ^ 24 : Nat) : Int) = (d : Int) * 16777216 by omega, show ((a + b * 2 ^ 8 + c * 2 ^ 16 : Nat) : Int) = (a : Int) + 256 * b + 65536 * c by omega, show ((a + b * 2 ^ 8 + c * 2 ^ 16 + d * 2 ^ 24 : Nat) : Int) = val4 a b c d by unfold val4; omega] at h3
  exact ⟨h1, h2, h3⟩
theorem rd_dropN (l : List Int) (k i : Nat) : rd (l.drop k) (i : Int) = rd l ((k : Int) + i) := by
  unfold rd
  rw [show ((k : Int) + i).toNat = k + i by omega, Int.toNat_natCast, List.getD_eq_getElem?_getD, List.getD_eq_getElem?_getD, List.getElem?_drop]
theorem hn_dropN (l : List Int) (k : Nat) : hn (l.drop k) = val4 (rd l (k : Int)) (rd l ((k : Int) + 1)) (rd l ((k : Int) + 2)) (rd l ((k : Int) + 3)) := by
  have r0 := rd_dropN l k 0
  have r1 := rd_dropN l k 1
  have r2 := rd_dropN l k 2
  have r3 := rd_dropN l k 3
  simp only [Int.natCast_zero, Int.add_zero, Int.natCast_one] at r0 r1
  unfold hn
  rw [← r0, ← r1]
  show val4 _ _ (rd (l.drop k) ((2 : Nat) : Int)) (rd (l.drop k) ((3 : Nat) : Int)) = _
  rw [r2, r3]
  rfl
set_option maxRecDepth 100000 in
set_option maxHeartbeats 4000000 in
theorem rnext_arg (A : Option Addr) (c : Nat) (l : List Int) (k : Int) (w : World) (hlen : l.length ≤ 140737488355328) (hk : k < 0 ∨ (l.length : Int) < k) : Calls Try.prog 74 #[.slice A l.length c, .int .i64 k] w (nextP l k w) := by
  have HF : Hid (nextF l k = ([], 0, 1)) := Lib.hid (by unfold nextF; rw [if_pos hk])
  by_cases h0 : k < 0
  · clear hk
    go_enter Try.func74, Try.ntmps74
    go_wp2_with fail
    go_ret3
    exact nextP.bad HF.out (Ext.refl _ _)
  · have h1 : (l.length : Int) < k := by omega
    clear hk
    go_enter Try.func74, Try.ntmps74
    go_wp2_with fail
    go_ret3
    exact nextP.bad HF.out (Ext.refl _ _)
set_option maxRecDepth 100000 in
set_option maxHeartbeats 4000000 in
theorem rnext_end (A : Option Addr) (c : Nat) (l : List Int) (w : World) (hlen : l.length ≤ 140737488355328) : Calls Try.prog 74 #[.slice A l.length c, .int .i64 (l.length : Int)] w (nextP l l.length w) := by
  have HF : Hid (nextF l l.length = ([], 0, 8)) := Lib.hid (by unfold nextF; rw [if_neg (by omega), if_pos rfl])
  go_enter Try.func74, Try.ntmps74
  go_wp2_with fail
  go_ret3
  exact nextP.bad HF.out (Ext.refl _ _)
set_option maxRecDepth 100000 in
set_option maxHeartbeats 4000000 in
theorem rnext_short (ad : Addr) (c : Nat) (l : List Int) (k : Nat) (R : List Int) (n : Int) (Ar : Option Addr) (w : World) (h : At l k (some ad) c R n Ar w) (hrow : Row w (some ad) (B8 l)) (hbl : Byt l) (h1 : R.length < 8) : Calls Try.prog 74 #[.slice (some ad) l.length c, .int .i64 (k : Int)] w (nextP l k w) := by
  have HF : Hid (nextF l (k : Int) = ([], 0, 3)) := Lib.hid (by have := h.kl; unfold nextF; rw [if_neg (by omega), if_neg (by omega)]; simp only [Int.toNat_natCast]; rw [← h.hR, ← h.nn]; rw [if_pos h1])
  have hkl := h.kl
  have hlc := h.lc
  have hcm := h.cm
  have hn0 := h.n0
  have hlen := h.len
  have HC := Lib.hid (fun (i : Nat) (hi : i < l.length) (W : World) (hx : Ext None_ w W) => cell_rd (hrow.ext0 hx) i hi)
  obtain ⟨b00, b01⟩ := rd_byte l hbl (k : Int)
  obtain ⟨b10, b11⟩ := rd_byte l hbl ((k : Int) + 1)
  obtain ⟨b20, b21⟩ := rd_byte l hbl ((k : Int) + 2)
  obtain ⟨b30, b31⟩ := rd_byte l hbl ((k : Int) + 3)
  have HV := Lib.hid (or_chain64 _ _ _ _ (rd_byte l hbl (k : Int)) (rd_byte l hbl ((k : Int) + 1)) (rd_byte l hbl ((k : Int) + 2)) (rd_byte l hbl ((k : Int) + 3)))
  have HNN : Hid (n = val4 (rd l (k : Int)) (rd l ((k : Int) + 1)) (rd l ((k : Int) + 2)) (rd l ((k : Int) + 3))) := Lib.hid (by rw [h.nn, h.hR]; exact hn_dropN l k)
  clear h hrow hbl
  go_enter Try.func74, Try.ntmps74
  go_wp2_with fail
  go_ret3
  exact nextP.bad HF.out (Ext.refl _ _)
set_option maxRecDepth 100000 in
set_option maxHeartbeats 4000000 in
theorem rnext_long (ad : Addr) (c : Nat) (l : List Int) (k : Nat) (R : List Int) (n : Int) (Ar : Option Addr) (w : World) (h : At l k (some ad) c R n Ar w) (hrow : Row w (some ad) (B8 l)) (hbl : Byt l) (h1 : ¬ R.length < 8) (h2 : 16384 < n) : Calls Try.prog 74 #[.slice (some ad) l.length c, .int .i64 (k : Int)] w (nextP l k w) := by
  have HF : Hid (nextF l (k : Int) = ([], 0, 2)) := Lib.hid (by have := h.kl; unfold nextF; rw [if_neg (by omega), if_neg (by omega)]; simp only [Int.toNat_natCast]; rw [← h.hR, ← h.nn]; rw [if_neg h1, if_pos h2])
  have hkl := h.kl
  have hlc := h.lc
  have hcm := h.cm
  have hn0 := h.n0
  have hlen := h.len
  have HC := Lib.hid (fun (i : Nat) (hi : i < l.length) (W : World) (hx : Ext None_ w W) => cell_rd (hrow.ext0 hx) i hi)
  obtain ⟨b00, b01⟩ := rd_byte l hbl (k : Int)
  obtain ⟨b10, b11⟩ := rd_byte l hbl ((k : Int) + 1)
  obtain ⟨b20, b21⟩ := rd_byte l hbl ((k : Int) + 2)
  obtain ⟨b30, b31⟩ := rd_byte l hbl ((k : Int) + 3)
  have HV := Lib.hid (or_chain64 _ _ _ _ (rd_byte l hbl (k : Int)) (rd_byte l hbl ((k : Int) + 1)) (rd_byte l hbl ((k : Int) + 2)) (rd_byte l hbl ((k : Int) + 3)))
  have HNN : Hid (n = val4 (rd l (k : Int)) (rd l ((k : Int) + 1)) (rd l ((k : Int) + 2)) (rd l ((k : Int) + 3))) := Lib.hid (by rw [h.nn, h.hR]; exact hn_dropN l k)
  clear h hrow hbl
  go_enter Try.func74, Try.ntmps74
  go_wp2_with fail
  refine wp_region_mem [sv _, sv _, sv (.pointer (some (ad.add ((k + 0) * 1)))), sv (.int .u8 (rd l (k : Int))), sv (.int .i64 (rd l (k : Int))), sv _, sv _, sv _, sv (.pointer (some (ad.add ((k + 1) * 1)))), sv (.int .u8 (rd l ((k : Int) + 1))), sv (.int .i64 (rd l ((k : Int) + 1))), sv (.int .i64 (rd l ((k : Int) + 1) * 256)), sv (.int .i64 (rd l (k : Int) + 256 * rd l ((k : Int) + 1))), sv _, sv _, sv _, sv (.pointer (some (ad.add ((k + 2) * 1)))), sv (.int .u8 (rd l ((k : Int) + 2))), sv (.int .i64 (rd l ((k : Int) + 2))), sv (.int .i64 (rd l ((k : Int) + 2) * 65536)), sv (.int .i64 (rd l (k : Int) + 256 * rd l ((k : Int) + 1) + 65536 * rd l ((k : Int) + 2))), sv _, sv _, sv _, sv (.pointer (some (ad.add ((k + 3) * 1)))), sv (.int .u8 (rd l ((k : Int) + 3))), sv (.int .i64 (rd l ((k : Int) + 3))), sv (.int .i64 (rd l ((k : Int) + 3) * 16777216)), sv (.int .i64 (val4 (rd l (k : Int)) (rd l ((k : Int) + 1)) (rd l ((k : Int) + 2)) (rd l ((k : Int) + 3)))), sv _] (by kernel_rfl) rfl rfl rfl rfl ⟨
    (by
      intro Lq aq wq hd hj Kq hK
      rw [if_pos (wanted_none rfl)]
      have f0 := hj.base 0 rfl rfl
      exact opMove hK rfl (ev f0) rfl),
    (by
      intro Lq aq wq hd hj Kq hK
      rw [if_pos (wanted_none rfl)]
      have f1 := hj.base 1 rfl rfl
      exact opMove hK rfl (ev f1) rfl),
    (by
      intro Lq aq wq hd hj Kq hK
      rw [if_pos (wanted_none rfl)]
      have f28 := hj.val 0 28 rfl rfl (by simp) rfl (hd ⟨0, .data⟩ (by simp) rfl)
      have f29 := hj.val 1 29 rfl rfl (by simp) rfl (hd ⟨1, .data⟩ (by simp) rfl)
      exact opIndex hK rfl (k := .i64) (i := (k : Int)) (ev f28) (ev f29) Try.underlying22 u8size (by omega) (by omega) (congrArg (fun z => Value.pointer (some (ad.add (z * 1)))) (by omega))),
    (by
      intro Lq aq wq hd hj Kq hK
      rw [if_pos (wanted_none rfl)]
      have f30 := hj.val 2 30 rfl rfl (by simp) rfl (hd ⟨2, .data⟩ (by simp) rfl)
      exact opLoad hK rfl (ev f30) Try.underlying5 rfl (HC.out (k + 0) (by omega) _ ((Ext.refl None_ _).drew.trans0 hj.ext)) rfl),
    (by
      intro Lq aq wq hd hj Kq hK
      rw [if_pos (wanted_none rfl)]
      have f31 := hj.val 3 31 rfl rfl (by simp) rfl (hd ⟨3, .data⟩ (by simp) rfl)
      exact opConvInt hK rfl (k' := .i64) (ev f31) (by kernel_rfl) (by kernel_rfl) (by kernel_rfl) (congrArg (Value.int IntKind.i64) (IntWalk.i64_in _ (by omega)))),
    (by
      intro Lq aq wq hd hj Kq hK
      rw [if_pos (wanted_none rfl)]
      have f0 := hj.base 0 rfl rfl
      exact opMove hK rfl (ev f0) rfl),
    (by
      intro Lq aq wq hd hj Kq hK
      rw [if_pos (wanted_none rfl)]
      have f1 := hj.base 1 rfl rfl
      exact opMove hK rfl (ev f1) rfl),
    (by
      intro Lq aq wq hd hj Kq hK
      rw [if_pos (wanted_none rfl)]
      have f34 := hj.val 6 34 rfl rfl (by simp) rfl (hd ⟨6, .data⟩ (by simp) rfl)
      exact opBin hK rfl (ev f34) rfl (guardInt _ _ _ _ _ _ _ _ _) (binAdd _ _ _ _ (IntWalk.i64_in _ (by omega))) rfl),
    (by
      intro Lq aq wq hd hj Kq hK
      rw [if_pos (wanted_none rfl)]
      have f33 := hj.val 5 33 rfl rfl (by simp) rfl (hd ⟨5, .data⟩ (by simp) rfl)
      have f35 := hj.val 7 35 rfl rfl (by simp) rfl (hd ⟨7, .data⟩ (by simp) rfl)
      exact opIndex hK rfl (k := .i64) (i := ((k : Int) + 1)) (ev f33) (ev f35) Try.underlying22 u8size (by omega) (by omega) (congrArg (fun z => Value.pointer (some (ad.add (z * 1)))) (by omega))),
    (by
      intro Lq aq wq hd hj Kq hK
      rw [if_pos (wanted_none rfl)]
      have f36 := hj.val 8 36 rfl rfl (by simp) rfl (hd ⟨8, .data⟩ (by simp) rfl)
      exact opLoad hK rfl (ev f36) Try.underlying5 rfl (HC.out (k + 1) (by omega) _ ((Ext.refl None_ _).drew.trans0 hj.ext)) rfl),
    (by
      intro Lq aq wq hd hj Kq hK
      rw [if_pos (wanted_none rfl)]
      have f37 := hj.val 9 37 rfl rfl (by simp) rfl (hd ⟨9, .data⟩ (by simp) rfl)
      exact opConvInt hK rfl (k' := .i64) (ev f37) (by kernel_rfl) (by kernel_rfl) (by kernel_rfl) (congrArg (Value.int IntKind.i64) (IntWalk.i64_in _ (by omega)))),
    (by
      intro Lq aq wq hd hj Kq hK
      rw [if_pos (wanted_none rfl)]
      have f38 := hj.val 10 38 rfl rfl (by simp) rfl (hd ⟨10, .data⟩ (by simp) rfl)
      exact opBin hK rfl (ev f38) rfl (guardInt _ _ _ _ _ _ _ _ _) (binShl64 _ _ _ _ _ _ (by decide) (by decide)) (congrArg (Value.int IntKind.i64) (show IntKind.i64.wrap (rd l ((k : Int) + 1) * 256) = rd l ((k : Int) + 1) * 256 from IntWalk.i64_in _ (by omega)))),
    (by
      intro Lq aq wq hd hj Kq hK
      rw [if_pos (wanted_none rfl)]
      have f32 := hj.val 4 32 rfl rfl (by simp) rfl (hd ⟨4, .data⟩ (by simp) rfl)
      have f39 := hj.val 11 39 rfl rfl (by simp) rfl (hd ⟨11, .data⟩ (by simp) rfl)
      exact opBin hK rfl (ev f32) (ev f39) (guardInt _ _ _ _ _ _ _ _ _) (binOr64 _ _ _ _ _) (congrArg (Value.int IntKind.i64) HV.out.1)),
    (by
      intro Lq aq wq hd hj Kq hK
      rw [if_pos (wanted_none rfl)]
      have f0 := hj.base 0 rfl rfl
      exact opMove hK rfl (ev f0) rfl),
    (by
      intro Lq aq wq hd hj Kq hK
      rw [if_pos (wanted_none rfl)]
      have f1 := hj.base 1 rfl rfl
      exact opMove hK rfl (ev f1) rfl),
    (by
      intro Lq aq wq hd hj Kq hK
      rw [if_pos (wanted_none rfl)]
      have f42 := hj.val 14 42 rfl rfl (by simp) rfl (hd ⟨14, .data⟩ (by simp) rfl)
      exact opBin hK rfl (ev f42) rfl (guardInt _ _ _ _ _ _ _ _ _) (binAdd _ _ _ _ (IntWalk.i64_in _ (by omega))) rfl),
    (by
      intro Lq aq wq hd hj Kq hK
      rw [if_pos (wanted_none rfl)]
      have f41 := hj.val 13 41 rfl rfl (by simp) rfl (hd ⟨13, .data⟩ (by simp) rfl)
      have f43 := hj.val 15 43 rfl rfl (by simp) rfl (hd ⟨15, .data⟩ (by simp) rfl)
      exact opIndex hK rfl (k := .i64) (i := ((k : Int) + 2)) (ev f41) (ev f43) Try.underlying22 u8size (by omega) (by omega) (congrArg (fun z => Value.pointer (some (ad.add (z * 1)))) (by omega))),
    (by
      intro Lq aq wq hd hj Kq hK
      rw [if_pos (wanted_none rfl)]
      have f44 := hj.val 16 44 rfl rfl (by simp) rfl (hd ⟨16, .data⟩ (by simp) rfl)
      exact opLoad hK rfl (ev f44) Try.underlying5 rfl (HC.out (k + 2) (by omega) _ ((Ext.refl None_ _).drew.trans0 hj.ext)) rfl),
    (by
      intro Lq aq wq hd hj Kq hK
      rw [if_pos (wanted_none rfl)]
      have f45 := hj.val 17 45 rfl rfl (by simp) rfl (hd ⟨17, .data⟩ (by simp) rfl)
      exact opConvInt hK rfl (k' := .i64) (ev f45) (by kernel_rfl) (by kernel_rfl) (by kernel_rfl) (congrArg (Value.int IntKind.i64) (IntWalk.i64_in _ (by omega)))),
    (by
      intro Lq aq wq hd hj Kq hK
      rw [if_pos (wanted_none rfl)]
      have f46 := hj.val 18 46 rfl rfl (by simp) rfl (hd ⟨18, .data⟩ (by simp) rfl)
      exact opBin hK rfl (ev f46) rfl (guardInt _ _ _ _ _ _ _ _ _) (binShl64 _ _ _ _ _ _ (by decide) (by decide)) (congrArg (Value.int IntKind.i64) (show IntKind.i64.wrap (rd l ((k : Int) + 2) * 65536) = rd l ((k : Int) + 2) * 65536 from IntWalk.i64_in _ (by omega)))),
    (by
      intro Lq aq wq hd hj Kq hK
      rw [if_pos (wanted_none rfl)]
      have f40 := hj.val 12 40 rfl rfl (by simp) rfl (hd ⟨12, .data⟩ (by simp) rfl)
      have f47 := hj.val 19 47 rfl rfl (by simp) rfl (hd ⟨19, .data⟩ (by simp) rfl)
      exact opBin hK rfl (ev f40) (ev f47) (guardInt _ _ _ _ _ _ _ _ _) (binOr64 _ _ _ _ _) (congrArg (Value.int IntKind.i64) HV.out.2.1)),
    (by
      intro Lq aq wq hd hj Kq hK
      rw [if_pos (wanted_none rfl)]
      have f0 := hj.base 0 rfl rfl
      exact opMove hK rfl (ev f0) rfl),
    (by
      intro Lq aq wq hd hj Kq hK
      rw [if_pos (wanted_none rfl)]
      have f1 := hj.base 1 rfl rfl
      exact opMove hK rfl (ev f1) rfl),
    (by
      intro Lq aq wq hd hj Kq hK
      rw [if_pos (wanted_none rfl)]
      have f50 := hj.val 22 50 rfl rfl (by simp) rfl (hd ⟨22, .data⟩ (by simp) rfl)
      exact opBin hK rfl (ev f50) rfl (guardInt _ _ _ _ _ _ _ _ _) (binAdd _ _ _ _ (IntWalk.i64_in _ (by omega))) rfl),
    (by
      intro Lq aq wq hd hj Kq hK
      rw [if_pos (wanted_none rfl)]
      have f49 := hj.val 21 49 rfl rfl (by simp) rfl (hd ⟨21, .data⟩ (by simp) rfl)
      have f51 := hj.val 23 51 rfl rfl (by simp) rfl (hd ⟨23, .data⟩ (by simp) rfl)
      exact opIndex hK rfl (k := .i64) (i := ((k : Int) + 3)) (ev f49) (ev f51) Try.underlying22 u8size (by omega) (by omega) (congrArg (fun z => Value.pointer (some (ad.add (z * 1)))) (by omega))),
    (by
      intro Lq aq wq hd hj Kq hK
      rw [if_pos (wanted_none rfl)]
      have f52 := hj.val 24 52 rfl rfl (by simp) rfl (hd ⟨24, .data⟩ (by simp) rfl)
      exact opLoad hK rfl (ev f52) Try.underlying5 rfl (HC.out (k + 3) (by omega) _ ((Ext.refl None_ _).drew.trans0 hj.ext)) rfl),
    (by
      intro Lq aq wq hd hj Kq hK
      rw [if_pos (wanted_none rfl)]
      have f53 := hj.val 25 53 rfl rfl (by simp) rfl (hd ⟨25, .data⟩ (by simp) rfl)
      exact opConvInt hK rfl (k' := .i64) (ev f53) (by kernel_rfl) (by kernel_rfl) (by kernel_rfl) (congrArg (Value.int IntKind.i64) (IntWalk.i64_in _ (by omega)))),
    (by
      intro Lq aq wq hd hj Kq hK
      rw [if_pos (wanted_none rfl)]
      have f54 := hj.val 26 54 rfl rfl (by simp) rfl (hd ⟨26, .data⟩ (by simp) rfl)
      exact opBin hK rfl (ev f54) rfl (guardInt _ _ _ _ _ _ _ _ _) (binShl64 _ _ _ _ _ _ (by decide) (by decide)) (congrArg (Value.int IntKind.i64) (show IntKind.i64.wrap (rd l ((k : Int) + 3) * 16777216) = rd l ((k : Int) + 3) * 16777216 from IntWalk.i64_in _ (by omega)))),
    (by
      intro Lq aq wq hd hj Kq hK
      rw [if_pos (wanted_none rfl)]
      have f48 := hj.val 20 48 rfl rfl (by simp) rfl (hd ⟨20, .data⟩ (by simp) rfl)
      have f55 := hj.val 27 55 rfl rfl (by simp) rfl (hd ⟨27, .data⟩ (by simp) rfl)
      exact opBin hK rfl (ev f48) (ev f55) (guardInt _ _ _ _ _ _ _ _ _) (binOr64 _ _ _ _ _) (congrArg (Value.int IntKind.i64) HV.out.2.2)),
    (by
      intro Lq aq wq hd hj Kq hK
      rw [if_pos (wanted_none rfl)]
      have f56 := hj.val 28 56 rfl rfl (by simp) rfl (hd ⟨28, .data⟩ (by simp) rfl)
      exact opAssign hK rfl (ev f56) rfl),
    trivial⟩ ?fin
  case fin =>
    intro vs w9 hx hg
    have v28 : vs 28 = _ := hg 28 (by decide)
    have v29 : vs 29 = _ := hg 29 (by decide)
    have X := Lib.hid ((Ext.refl None_ w).drew.trans0 hx)
    rw [← HNN.out] at v28 v29
    clear hx hg b00 b01 b10 b11 b20 b21 b30 b31
    simp only [putAll, v28, v29, Nat.reduceAdd, Nat.zero_add]
    simp only [Act.put, List.setIfInBounds_toArray, List.set_cons_succ, List.set_cons_zero]
    go_wp2_with fail
    go_ret3
    exact nextP.bad HF.out X.out
set_option maxRecDepth 100000 in
set_option maxHeartbeats 4000000 in
theorem rnext_torn (ad : Addr) (c : Nat) (l : List Int) (k : Nat) (R : List Int) (n : Int) (Ar : Option Addr) (w : World) (h : At l k (some ad) c R n Ar w) (hrow : Row w (some ad) (B8 l)) (hbl : Byt l) (h1 : ¬ R.length < 8) (h2 : ¬ 16384 < n) (h3 : (R.length : Int) - 8 < n) : Calls Try.prog 74 #[.slice (some ad) l.length c, .int .i64 (k : Int)] w (nextP l k w) := by
  have HF : Hid (nextF l (k : Int) = ([], 0, 3)) := Lib.hid (by have := h.kl; unfold nextF; rw [if_neg (by omega), if_neg (by omega)]; simp only [Int.toNat_natCast]; rw [← h.hR, ← h.nn]; rw [if_neg h1, if_neg h2, if_pos h3])
  have hkl := h.kl
  have hlc := h.lc
  have hcm := h.cm
  have hn0 := h.n0
  have hlen := h.len
  have HC := Lib.hid (fun (i : Nat) (hi : i < l.length) (W : World) (hx : Ext None_ w W) => cell_rd (hrow.ext0 hx) i hi)
  obtain ⟨b00, b01⟩ := rd_byte l hbl (k : Int)
  obtain ⟨b10, b11⟩ := rd_byte l hbl ((k : Int) + 1)
  obtain ⟨b20, b21⟩ := rd_byte l hbl ((k : Int) + 2)
  obtain ⟨b30, b31⟩ := rd_byte l hbl ((k : Int) + 3)
  have HV := Lib.hid (or_chain64 _ _ _ _ (rd_byte l hbl (k : Int)) (rd_byte l hbl ((k : Int) + 1)) (rd_byte l hbl ((k : Int) + 2)) (rd_byte l hbl ((k : Int) + 3)))
  have HNN : Hid (n = val4 (rd l (k : Int)) (rd l ((k : Int) + 1)) (rd l ((k : Int) + 2)) (rd l ((k : Int) + 3))) := Lib.hid (by rw [h.nn, h.hR]; exact hn_dropN l k)
  clear h hrow hbl
  go_enter Try.func74, Try.ntmps74
  go_wp2_with fail
  refine wp_region_mem [sv _, sv _, sv (.pointer (some (ad.add ((k + 0) * 1)))), sv (.int .u8 (rd l (k : Int))), sv (.int .i64 (rd l (k : Int))), sv _, sv _, sv _, sv (.pointer (some (ad.add ((k + 1) * 1)))), sv (.int .u8 (rd l ((k : Int) + 1))), sv (.int .i64 (rd l ((k : Int) + 1))), sv (.int .i64 (rd l ((k : Int) + 1) * 256)), sv (.int .i64 (rd l (k : Int) + 256 * rd l ((k : Int) + 1))), sv _, sv _, sv _, sv (.pointer (some (ad.add ((k + 2) * 1)))), sv (.int .u8 (rd l ((k : Int) + 2))), sv (.int .i64 (rd l ((k : Int) + 2))), sv (.int .i64 (rd l ((k : Int) + 2) * 65536)), sv (.int .i64 (rd l (k : Int) + 256 * rd l ((k : Int) + 1) + 65536 * rd l ((k : Int) + 2))), sv _, sv _, sv _, sv (.pointer (some (ad.add ((k + 3) * 1)))), sv (.int .u8 (rd l ((k : Int) + 3))), sv (.int .i64 (rd l ((k : Int) + 3))), sv (.int .i64 (rd l ((k : Int) + 3) * 16777216)), sv (.int .i64 (val4 (rd l (k : Int)) (rd l ((k : Int) + 1)) (rd l ((k : Int) + 2)) (rd l ((k : Int) + 3)))), sv _] (by kernel_rfl) rfl rfl rfl rfl ⟨
    (by
      intro Lq aq wq hd hj Kq hK
      rw [if_pos (wanted_none rfl)]
      have f0 := hj.base 0 rfl rfl
      exact opMove hK rfl (ev f0) rfl),
    (by
      intro Lq aq wq hd hj Kq hK
      rw [if_pos (wanted_none rfl)]
      have f1 := hj.base 1 rfl rfl
      exact opMove hK rfl (ev f1) rfl),
    (by
      intro Lq aq wq hd hj Kq hK
      rw [if_pos (wanted_none rfl)]
      have f28 := hj.val 0 28 rfl rfl (by simp) rfl (hd ⟨0, .data⟩ (by simp) rfl)
      have f29 := hj.val 1 29 rfl rfl (by simp) rfl (hd ⟨1, .data⟩ (by simp) rfl)
      exact opIndex hK rfl (k := .i64) (i := (k : Int)) (ev f28) (ev f29) Try.underlying22 u8size (by omega) (by omega) (congrArg (fun z => Value.pointer (some (ad.add (z * 1)))) (by omega))),
    (by
      intro Lq aq wq hd hj Kq hK
      rw [if_pos (wanted_none rfl)]
      have f30 := hj.val 2 30 rfl rfl (by simp) rfl (hd ⟨2, .data⟩ (by simp) rfl)
      exact opLoad hK rfl (ev f30) Try.underlying5 rfl (HC.out (k + 0) (by omega) _ ((Ext.refl None_ _).drew.trans0 hj.ext)) rfl),
    (by
      intro Lq aq wq hd hj Kq hK
      rw [if_pos (wanted_none rfl)]
      have f31 := hj.val 3 31 rfl rfl (by simp) rfl (hd ⟨3, .data⟩ (by simp) rfl)
      exact opConvInt hK rfl (k' := .i64) (ev f31) (by kernel_rfl) (by kernel_rfl) (by kernel_rfl) (congrArg (Value.int IntKind.i64) (IntWalk.i64_in _ (by omega)))),
    (by
      intro Lq aq wq hd hj Kq hK
      rw [if_pos (wanted_none rfl)]
      have f0 := hj.base 0 rfl rfl
      exact opMove hK rfl (ev f0) rfl),
    (by
      intro Lq aq wq hd hj Kq hK
      rw [if_pos (wanted_none rfl)]
      have f1 := hj.base 1 rfl rfl
      exact opMove hK rfl (ev f1) rfl),
    (by
      intro Lq aq wq hd hj Kq hK
      rw [if_pos (wanted_none rfl)]
      have f34 := hj.val 6 34 rfl rfl (by simp) rfl (hd ⟨6, .data⟩ (by simp) rfl)
      exact opBin hK rfl (ev f34) rfl (guardInt _ _ _ _ _ _ _ _ _) (binAdd _ _ _ _ (IntWalk.i64_in _ (by omega))) rfl),
    (by
      intro Lq aq wq hd hj Kq hK
      rw [if_pos (wanted_none rfl)]
      have f33 := hj.val 5 33 rfl rfl (by simp) rfl (hd ⟨5, .data⟩ (by simp) rfl)
      have f35 := hj.val 7 35 rfl rfl (by simp) rfl (hd ⟨7, .data⟩ (by simp) rfl)
      exact opIndex hK rfl (k := .i64) (i := ((k : Int) + 1)) (ev f33) (ev f35) Try.underlying22 u8size (by omega) (by omega) (congrArg (fun z => Value.pointer (some (ad.add (z * 1)))) (by omega))),
    (by
      intro Lq aq wq hd hj Kq hK
      rw [if_pos (wanted_none rfl)]
      have f36 := hj.val 8 36 rfl rfl (by simp) rfl (hd ⟨8, .data⟩ (by simp) rfl)
      exact opLoad hK rfl (ev f36) Try.underlying5 rfl (HC.out (k + 1) (by omega) _ ((Ext.refl None_ _).drew.trans0 hj.ext)) rfl),
    (by
      intro Lq aq wq hd hj Kq hK
      rw [if_pos (wanted_none rfl)]
      have f37 := hj.val 9 37 rfl rfl (by simp) rfl (hd ⟨9, .data⟩ (by simp) rfl)
      exact opConvInt hK rfl (k' := .i64) (ev f37) (by kernel_rfl) (by kernel_rfl) (by kernel_rfl) (congrArg (Value.int IntKind.i64) (IntWalk.i64_in _ (by omega)))),
    (by
      intro Lq aq wq hd hj Kq hK
      rw [if_pos (wanted_none rfl)]
      have f38 := hj.val 10 38 rfl rfl (by simp) rfl (hd ⟨10, .data⟩ (by simp) rfl)
      exact opBin hK rfl (ev f38) rfl (guardInt _ _ _ _ _ _ _ _ _) (binShl64 _ _ _ _ _ _ (by decide) (by decide)) (congrArg (Value.int IntKind.i64) (show IntKind.i64.wrap (rd l ((k : Int) + 1) * 256) = rd l ((k : Int) + 1) * 256 from IntWalk.i64_in _ (by omega)))),
    (by
      intro Lq aq wq hd hj Kq hK
      rw [if_pos (wanted_none rfl)]
      have f32 := hj.val 4 32 rfl rfl (by simp) rfl (hd ⟨4, .data⟩ (by simp) rfl)
      have f39 := hj.val 11 39 rfl rfl (by simp) rfl (hd ⟨11, .data⟩ (by simp) rfl)
      exact opBin hK rfl (ev f32) (ev f39) (guardInt _ _ _ _ _ _ _ _ _) (binOr64 _ _ _ _ _) (congrArg (Value.int IntKind.i64) HV.out.1)),
    (by
      intro Lq aq wq hd hj Kq hK
      rw [if_pos (wanted_none rfl)]
      have f0 := hj.base 0 rfl rfl
      exact opMove hK rfl (ev f0) rfl),
    (by
      intro Lq aq wq hd hj Kq hK
      rw [if_pos (wanted_none rfl)]
      have f1 := hj.base 1 rfl rfl
      exact opMove hK rfl (ev f1) rfl),
    (by
      intro Lq aq wq hd hj Kq hK
      rw [if_pos (wanted_none rfl)]
      have f42 := hj.val 14 42 rfl rfl (by simp) rfl (hd ⟨14, .data⟩ (by simp) rfl)
      exact opBin hK rfl (ev f42) rfl (guardInt _ _ _ _ _ _ _ _ _) (binAdd _ _ _ _ (IntWalk.i64_in _ (by omega))) rfl),
    (by
      intro Lq aq wq hd hj Kq hK
      rw [if_pos (wanted_none rfl)]
      have f41 := hj.val 13 41 rfl rfl (by simp) rfl (hd ⟨13, .data⟩ (by simp) rfl)
      have f43 := hj.val 15 43 rfl rfl (by simp) rfl (hd ⟨15, .data⟩ (by simp) rfl)
      exact opIndex hK rfl (k := .i64) (i := ((k : Int) + 2)) (ev f41) (ev f43) Try.underlying22 u8size (by omega) (by omega) (congrArg (fun z => Value.pointer (some (ad.add (z * 1)))) (by omega))),
    (by
      intro Lq aq wq hd hj Kq hK
      rw [if_pos (wanted_none rfl)]
      have f44 := hj.val 16 44 rfl rfl (by simp) rfl (hd ⟨16, .data⟩ (by simp) rfl)
      exact opLoad hK rfl (ev f44) Try.underlying5 rfl (HC.out (k + 2) (by omega) _ ((Ext.refl None_ _).drew.trans0 hj.ext)) rfl),
    (by
      intro Lq aq wq hd hj Kq hK
      rw [if_pos (wanted_none rfl)]
      have f45 := hj.val 17 45 rfl rfl (by simp) rfl (hd ⟨17, .data⟩ (by simp) rfl)
      exact opConvInt hK rfl (k' := .i64) (ev f45) (by kernel_rfl) (by kernel_rfl) (by kernel_rfl) (congrArg (Value.int IntKind.i64) (IntWalk.i64_in _ (by omega)))),
    (by
      intro Lq aq wq hd hj Kq hK
      rw [if_pos (wanted_none rfl)]
      have f46 := hj.val 18 46 rfl rfl (by simp) rfl (hd ⟨18, .data⟩ (by simp) rfl)
      exact opBin hK rfl (ev f46) rfl (guardInt _ _ _ _ _ _ _ _ _) (binShl64 _ _ _ _ _ _ (by decide) (by decide)) (congrArg (Value.int IntKind.i64) (show IntKind.i64.wrap (rd l ((k : Int) + 2) * 65536) = rd l ((k : Int) + 2) * 65536 from IntWalk.i64_in _ (by omega)))),
    (by
      intro Lq aq wq hd hj Kq hK
      rw [if_pos (wanted_none rfl)]
      have f40 := hj.val 12 40 rfl rfl (by simp) rfl (hd ⟨12, .data⟩ (by simp) rfl)
      have f47 := hj.val 19 47 rfl rfl (by simp) rfl (hd ⟨19, .data⟩ (by simp) rfl)
      exact opBin hK rfl (ev f40) (ev f47) (guardInt _ _ _ _ _ _ _ _ _) (binOr64 _ _ _ _ _) (congrArg (Value.int IntKind.i64) HV.out.2.1)),
    (by
      intro Lq aq wq hd hj Kq hK
      rw [if_pos (wanted_none rfl)]
      have f0 := hj.base 0 rfl rfl
      exact opMove hK rfl (ev f0) rfl),
    (by
      intro Lq aq wq hd hj Kq hK
      rw [if_pos (wanted_none rfl)]
      have f1 := hj.base 1 rfl rfl
      exact opMove hK rfl (ev f1) rfl),
    (by
      intro Lq aq wq hd hj Kq hK
      rw [if_pos (wanted_none rfl)]
      have f50 := hj.val 22 50 rfl rfl (by simp) rfl (hd ⟨22, .data⟩ (by simp) rfl)
      exact opBin hK rfl (ev f50) rfl (guardInt _ _ _ _ _ _ _ _ _) (binAdd _ _ _ _ (IntWalk.i64_in _ (by omega))) rfl),
    (by
      intro Lq aq wq hd hj Kq hK
      rw [if_pos (wanted_none rfl)]
      have f49 := hj.val 21 49 rfl rfl (by simp) rfl (hd ⟨21, .data⟩ (by simp) rfl)
      have f51 := hj.val 23 51 rfl rfl (by simp) rfl (hd ⟨23, .data⟩ (by simp) rfl)
      exact opIndex hK rfl (k := .i64) (i := ((k : Int) + 3)) (ev f49) (ev f51) Try.underlying22 u8size (by omega) (by omega) (congrArg (fun z => Value.pointer (some (ad.add (z * 1)))) (by omega))),
    (by
      intro Lq aq wq hd hj Kq hK
      rw [if_pos (wanted_none rfl)]
      have f52 := hj.val 24 52 rfl rfl (by simp) rfl (hd ⟨24, .data⟩ (by simp) rfl)
      exact opLoad hK rfl (ev f52) Try.underlying5 rfl (HC.out (k + 3) (by omega) _ ((Ext.refl None_ _).drew.trans0 hj.ext)) rfl),
    (by
      intro Lq aq wq hd hj Kq hK
      rw [if_pos (wanted_none rfl)]
      have f53 := hj.val 25 53 rfl rfl (by simp) rfl (hd ⟨25, .data⟩ (by simp) rfl)
      exact opConvInt hK rfl (k' := .i64) (ev f53) (by kernel_rfl) (by kernel_rfl) (by kernel_rfl) (congrArg (Value.int IntKind.i64) (IntWalk.i64_in _ (by omega)))),
    (by
      intro Lq aq wq hd hj Kq hK
      rw [if_pos (wanted_none rfl)]
      have f54 := hj.val 26 54 rfl rfl (by simp) rfl (hd ⟨26, .data⟩ (by simp) rfl)
      exact opBin hK rfl (ev f54) rfl (guardInt _ _ _ _ _ _ _ _ _) (binShl64 _ _ _ _ _ _ (by decide) (by decide)) (congrArg (Value.int IntKind.i64) (show IntKind.i64.wrap (rd l ((k : Int) + 3) * 16777216) = rd l ((k : Int) + 3) * 16777216 from IntWalk.i64_in _ (by omega)))),
    (by
      intro Lq aq wq hd hj Kq hK
      rw [if_pos (wanted_none rfl)]
      have f48 := hj.val 20 48 rfl rfl (by simp) rfl (hd ⟨20, .data⟩ (by simp) rfl)
      have f55 := hj.val 27 55 rfl rfl (by simp) rfl (hd ⟨27, .data⟩ (by simp) rfl)
      exact opBin hK rfl (ev f48) (ev f55) (guardInt _ _ _ _ _ _ _ _ _) (binOr64 _ _ _ _ _) (congrArg (Value.int IntKind.i64) HV.out.2.2)),
    (by
      intro Lq aq wq hd hj Kq hK
      rw [if_pos (wanted_none rfl)]
      have f56 := hj.val 28 56 rfl rfl (by simp) rfl (hd ⟨28, .data⟩ (by simp) rfl)
      exact opAssign hK rfl (ev f56) rfl),
    trivial⟩ ?fin
  case fin =>
    intro vs w9 hx hg
    have v28 : vs 28 = _ := hg 28 (by decide)
    have v29 : vs 29 = _ := hg 29 (by decide)
    have X := Lib.hid ((Ext.refl None_ w).drew.trans0 hx)
    rw [← HNN.out] at v28 v29
    clear hx hg b00 b01 b10 b11 b20 b21 b30 b31
    simp only [putAll, v28, v29, Nat.reduceAdd, Nat.zero_add]
    simp only [Act.put, List.setIfInBounds_toArray, List.set_cons_succ, List.set_cons_zero]
    go_wp2_with fail
    go_ret3
    exact nextP.bad HF.out X.out
theorem le4_hn (s : BitVec 32) (R : List Int) (hR : Byt R) : nt s = hn R ↔ le4 s = [rd R 0, rd R 1, rd R 2, rd R 3] := val4_inj s _ _ _ _ (rd_byte R hR 0) (rd_byte R hR 1) (rd_byte R hR 2) (rd_byte R hR 3)
theorem le4_all (s : BitVec 32) (R : List Int) (h : ∀ j : Nat, j < 4 → rd (le4 s) j = rd R j) : le4 s = [rd R 0, rd R 1, rd R 2, rd R 3] := by
  have h0 := h 0 (by omega)
  have h1 := h 1 (by omega)
  have h2 := h 2 (by omega)
  have h3 := h 3 (by omega)
  have e0 : rd R 0 = rd R ((0 : Nat) : Int) := rfl
  have e1 : rd R 1 = rd R ((1 : Nat) : Int) := rfl
  have e2 : rd R 2 = rd R ((2 : Nat) : Int) := rfl
  have e3 : rd R 3 = rd R ((3 : Nat) : Int) := rfl
  rw [e0, e1, e2, e3, ← h0, ← h1, ← h2, ← h3]
  rfl
set_option maxRecDepth 100000 in
set_option maxHeartbeats 8000000 in
theorem rnext_tail (ad : Addr) (c : Nat) (l : List Int) (k : Nat) (R : List Int) (n : Int) (Ar : Option Addr) (w : World) (h : At l k (some ad) c R n Ar w) (hrow : Row w (some ad) (B8 l)) (hbl : Byt l) (h1 : ¬ R.length < 8) (h2 : ¬ 16384 < n) (h3 : ¬ (R.length : Int) - 8 < n) : Calls Try.prog 74 #[.slice (some ad) l.length c, .int .i64 (k : Int)] w (nextP l k w) := by
  have HF6 : Hid (nt (sumOf 0#32 (R.take 4 ++ bodyOf R)) ≠ hn (R.drop 4) → nextF l (k : Int) = ([], 0, 6)) := Lib.hid (fun h4 => by have := h.kl; unfold nextF; rw [if_neg (by omega), if_neg (by omega)]; simp only [Int.toNat_natCast]; rw [← h.hR, ← h.nn, if_neg h1, if_neg h2, if_neg h3, if_pos h4])
  have HF0 : Hid (nt (sumOf 0#32 (R.take 4 ++ bodyOf R)) = hn (R.drop 4) → nextF l (k : Int) = (bodyOf R, (k : Int) + 8 + n, 0)) := Lib.hid (fun h4 => by have := h.kl; unfold nextF; rw [if_neg (by omega), if_neg (by omega)]; simp only [Int.toNat_natCast]; rw [← h.hR, ← h.nn, if_neg h1, if_neg h2, if_neg h3, if_neg (by rw [h4]; exact fun h => h rfl)])
  have hkl := h.kl
  have hlc := h.lc
  have hcm := h.cm
  have hn0 := h.n0
  have hlen := h.len
  have HC := Lib.hid (fun (i : Nat) (hi : i < l.length) (W : World) (hx : Ext None_ w W) => cell_rd (hrow.ext0 hx) i hi)
  obtain ⟨b00, b01⟩ := rd_byte l hbl (k : Int)
  obtain ⟨b10, b11⟩ := rd_byte l hbl ((k : Int) + 1)
  obtain ⟨b20, b21⟩ := rd_byte l hbl ((k : Int) + 2)
  obtain ⟨b30, b31⟩ := rd_byte l hbl ((k : Int) + 3)
  have HV := Lib.hid (or_chain64 _ _ _ _ (rd_byte l hbl (k : Int)) (rd_byte l hbl ((k : Int) + 1)) (rd_byte l hbl ((k : Int) + 2)) (rd_byte l hbl ((k : Int) + 3)))
  have HNN : Hid (n = val4 (rd l (k : Int)) (rd l ((k : Int) + 1)) (rd l ((k : Int) + 2)) (rd l ((k : Int) + 3))) := Lib.hid (by rw [h.nn, h.hR]; exact hn_dropN l k)
  obtain ⟨m, hm⟩ : ∃ m : Nat, n = m := ⟨n.toNat, by omega⟩
  subst hm
  have hrl : k + 8 + m ≤ l.length := by omega
  obtain ⟨A8, hA8, hc8⟩ := cut_lh (P := Try.prog) 22 5 1 Try.underlying22 infoU8 (some ad) l.length c ((k : Int) + 8) ((k : Int) + 8 + m) (by omega) (by omega) (by omega)
  rw [show ((k : Int) + 8).toNat = k + 8 by omega] at hA8 hc8
  rw [show ((k : Int) + 8 + m).toNat = k + 8 + m by omega, show k + 8 + m - (k + 8) = m by omega] at hc8
  obtain ⟨A4, hA4, hc4⟩ := cut_lh (P := Try.prog) 22 5 1 Try.underlying22 infoU8 (some ad) l.length c (k : Int) ((k : Int) + 4) (by omega) (by omega) (by omega)
  rw [show (k : Int).toNat = k by omega] at hA4 hc4
  rw [show ((k : Int) + 4).toNat = k + 4 by omega, show k + 4 - k = 4 by omega] at hc4
  obtain ⟨p, hp⟩ : ∃ p, p = bodyOf R := ⟨_, rfl⟩
  have hpl : p.length = m := by rw [hp]; unfold bodyOf; rw [← h.nn, List.length_drop, List.length_take]; omega
  obtain ⟨q, hq⟩ : ∃ q, q = R.take 4 := ⟨_, rfl⟩
  have hql : q.length = 4 := by rw [hq, List.length_take]; omega
  have HP8 : Hid (∀ W, Ext None_ w W → Row W A8 (B8 p)) := Lib.hid (fun W hx => by
    have := cut_row (lo := k + 8) (hi := k + 8 + m) (size := 1) (hrow.ext0 hx) hA8 (by rw [B8_length]; omega)
    rw [hp]; unfold bodyOf; rw [← h.nn, h.hR, Int.toNat_natCast]
    rw [List.take_drop, List.drop_drop, show k + (8 + m) = k + 8 + m by omega]
    simpa [B8, List.map_take, List.map_drop] using this)
  have HP4 : Hid (∀ W, Ext None_ w W → Row W A4 (B8 q)) := Lib.hid (fun W hx => by
    have := cut_row (lo := k) (hi := k + 4) (size := 1) (hrow.ext0 hx) hA4 (by rw [B8_length]; omega)
    rw [hq, h.hR, List.take_drop]
    simpa [B8, List.map_take, List.map_drop] using this)
  have HBR := Lib.hid h.byt
  have HBP : Hid (Byt p) := Lib.hid (hp ▸ fun x hx => by unfold bodyOf at hx; exact h.byt x (List.mem_of_mem_take (List.mem_of_mem_drop hx)))
  have HBQ : Hid (Byt q) := Lib.hid (hq ▸ fun x hx => h.byt x (List.mem_of_mem_take hx))
  obtain ⟨S, hS⟩ : ∃ S, S = sumOf 0#32 (q ++ p) := ⟨_, rfl⟩
  have HS : Hid (S = sumOf (sumOf 0#32 q) p) := Lib.hid (by rw [hS, sumOf_append])
  rw [← hp, ← hq, ← hS] at HF6 HF0
  have HR4 : Hid (∀ j : Nat, rd (R.drop 4) j = rd l ((k + 4 + j : Nat) : Int)) := Lib.hid (fun j => by rw [h.hR, List.drop_drop, rd_dropN]; congr 1)
  have HBD : Hid (Byt (R.drop 4)) := Lib.hid (fun x hx => h.byt x (List.mem_of_mem_drop hx))
  have HPL := Lib.hid hpl
  have HQL := Lib.hid hql
  clear h hrow hbl hA8 hA4 hp hq hS hpl hql
  go_enter Try.func74, Try.ntmps74
  go_wp2_with fail
  refine wp_region_mem [sv _, sv _, sv (.pointer (some (ad.add ((k + 0) * 1)))), sv (.int .u8 (rd l (k : Int))), sv (.int .i64 (rd l (k : Int))), sv _, sv _, sv _, sv (.pointer (some (ad.add ((k + 1) * 1)))), sv (.int .u8 (rd l ((k : Int) + 1))), sv (.int .i64 (rd l ((k : Int) + 1))), sv (.int .i64 (rd l ((k : Int) + 1) * 256)), sv (.int .i64 (rd l (k : Int) + 256 * rd l ((k : Int) + 1))), sv _, sv _, sv _, sv (.pointer (some (ad.add ((k + 2) * 1)))), sv (.int .u8 (rd l ((k : Int) + 2))), sv (.int .i64 (rd l ((k : Int) + 2))), sv (.int .i64 (rd l ((k : Int) + 2) * 65536)), sv (.int .i64 (rd l (k : Int) + 256 * rd l ((k : Int) + 1) + 65536 * rd l ((k : Int) + 2))), sv _, sv _, sv _, sv (.pointer (some (ad.add ((k + 3) * 1)))), sv (.int .u8 (rd l ((k : Int) + 3))), sv (.int .i64 (rd l ((k : Int) + 3))), sv (.int .i64 (rd l ((k : Int) + 3) * 16777216)), sv (.int .i64 (val4 (rd l (k : Int)) (rd l ((k : Int) + 1)) (rd l ((k : Int) + 2)) (rd l ((k : Int) + 3)))), sv _] (by kernel_rfl) rfl rfl rfl rfl ⟨
    (by
      intro Lq aq wq hd hj Kq hK
      rw [if_pos (wanted_none rfl)]
      have f0 := hj.base 0 rfl rfl
      exact opMove hK rfl (ev f0) rfl),
    (by
      intro Lq aq wq hd hj Kq hK
      rw [if_pos (wanted_none rfl)]
      have f1 := hj.base 1 rfl rfl
      exact opMove hK rfl (ev f1) rfl),
    (by
      intro Lq aq wq hd hj Kq hK
      rw [if_pos (wanted_none rfl)]
      have f28 := hj.val 0 28 rfl rfl (by simp) rfl (hd ⟨0, .data⟩ (by simp) rfl)
      have f29 := hj.val 1 29 rfl rfl (by simp) rfl (hd ⟨1, .data⟩ (by simp) rfl)
      exact opIndex hK rfl (k := .i64) (i := (k : Int)) (ev f28) (ev f29) Try.underlying22 u8size (by omega) (by omega) (congrArg (fun z => Value.pointer (some (ad.add (z * 1)))) (by omega))),
    (by
      intro Lq aq wq hd hj Kq hK
      rw [if_pos (wanted_none rfl)]
      have f30 := hj.val 2 30 rfl rfl (by simp) rfl (hd ⟨2, .data⟩ (by simp) rfl)
      exact opLoad hK rfl (ev f30) Try.underlying5 rfl (HC.out (k + 0) (by omega) _ ((Ext.refl None_ _).drew.trans0 hj.ext)) rfl),
    (by
      intro Lq aq wq hd hj Kq hK
      rw [if_pos (wanted_none rfl)]
      have f31 := hj.val 3 31 rfl rfl (by simp) rfl (hd ⟨3, .data⟩ (by simp) rfl)
      exact opConvInt hK rfl (k' := .i64) (ev f31) (by kernel_rfl) (by kernel_rfl) (by kernel_rfl) (congrArg (Value.int IntKind.i64) (IntWalk.i64_in _ (by omega)))),
    (by
      intro Lq aq wq hd hj Kq hK
      rw [if_pos (wanted_none rfl)]
      have f0 := hj.base 0 rfl rfl
      exact opMove hK rfl (ev f0) rfl),
    (by
      intro Lq aq wq hd hj Kq hK
      rw [if_pos (wanted_none rfl)]
      have f1 := hj.base 1 rfl rfl
      exact opMove hK rfl (ev f1) rfl),
    (by
      intro Lq aq wq hd hj Kq hK
      rw [if_pos (wanted_none rfl)]
      have f34 := hj.val 6 34 rfl rfl (by simp) rfl (hd ⟨6, .data⟩ (by simp) rfl)
      exact opBin hK rfl (ev f34) rfl (guardInt _ _ _ _ _ _ _ _ _) (binAdd _ _ _ _ (IntWalk.i64_in _ (by omega))) rfl),
    (by
      intro Lq aq wq hd hj Kq hK
      rw [if_pos (wanted_none rfl)]
      have f33 := hj.val 5 33 rfl rfl (by simp) rfl (hd ⟨5, .data⟩ (by simp) rfl)
      have f35 := hj.val 7 35 rfl rfl (by simp) rfl (hd ⟨7, .data⟩ (by simp) rfl)
      exact opIndex hK rfl (k := .i64) (i := ((k : Int) + 1)) (ev f33) (ev f35) Try.underlying22 u8size (by omega) (by omega) (congrArg (fun z => Value.pointer (some (ad.add (z * 1)))) (by omega))),
    (by
      intro Lq aq wq hd hj Kq hK
      rw [if_pos (wanted_none rfl)]
      have f36 := hj.val 8 36 rfl rfl (by simp) rfl (hd ⟨8, .data⟩ (by simp) rfl)
      exact opLoad hK rfl (ev f36) Try.underlying5 rfl (HC.out (k + 1) (by omega) _ ((Ext.refl None_ _).drew.trans0 hj.ext)) rfl),
    (by
      intro Lq aq wq hd hj Kq hK
      rw [if_pos (wanted_none rfl)]
      have f37 := hj.val 9 37 rfl rfl (by simp) rfl (hd ⟨9, .data⟩ (by simp) rfl)
      exact opConvInt hK rfl (k' := .i64) (ev f37) (by kernel_rfl) (by kernel_rfl) (by kernel_rfl) (congrArg (Value.int IntKind.i64) (IntWalk.i64_in _ (by omega)))),
    (by
      intro Lq aq wq hd hj Kq hK
      rw [if_pos (wanted_none rfl)]
      have f38 := hj.val 10 38 rfl rfl (by simp) rfl (hd ⟨10, .data⟩ (by simp) rfl)
      exact opBin hK rfl (ev f38) rfl (guardInt _ _ _ _ _ _ _ _ _) (binShl64 _ _ _ _ _ _ (by decide) (by decide)) (congrArg (Value.int IntKind.i64) (show IntKind.i64.wrap (rd l ((k : Int) + 1) * 256) = rd l ((k : Int) + 1) * 256 from IntWalk.i64_in _ (by omega)))),
    (by
      intro Lq aq wq hd hj Kq hK
      rw [if_pos (wanted_none rfl)]
      have f32 := hj.val 4 32 rfl rfl (by simp) rfl (hd ⟨4, .data⟩ (by simp) rfl)
      have f39 := hj.val 11 39 rfl rfl (by simp) rfl (hd ⟨11, .data⟩ (by simp) rfl)
      exact opBin hK rfl (ev f32) (ev f39) (guardInt _ _ _ _ _ _ _ _ _) (binOr64 _ _ _ _ _) (congrArg (Value.int IntKind.i64) HV.out.1)),
    (by
      intro Lq aq wq hd hj Kq hK
      rw [if_pos (wanted_none rfl)]
      have f0 := hj.base 0 rfl rfl
      exact opMove hK rfl (ev f0) rfl),
    (by
      intro Lq aq wq hd hj Kq hK
      rw [if_pos (wanted_none rfl)]
      have f1 := hj.base 1 rfl rfl
      exact opMove hK rfl (ev f1) rfl),
    (by
      intro Lq aq wq hd hj Kq hK
      rw [if_pos (wanted_none rfl)]
      have f42 := hj.val 14 42 rfl rfl (by simp) rfl (hd ⟨14, .data⟩ (by simp) rfl)
      exact opBin hK rfl (ev f42) rfl (guardInt _ _ _ _ _ _ _ _ _) (binAdd _ _ _ _ (IntWalk.i64_in _ (by omega))) rfl),
    (by
      intro Lq aq wq hd hj Kq hK
      rw [if_pos (wanted_none rfl)]
      have f41 := hj.val 13 41 rfl rfl (by simp) rfl (hd ⟨13, .data⟩ (by simp) rfl)
      have f43 := hj.val 15 43 rfl rfl (by simp) rfl (hd ⟨15, .data⟩ (by simp) rfl)
      exact opIndex hK rfl (k := .i64) (i := ((k : Int) + 2)) (ev f41) (ev f43) Try.underlying22 u8size (by omega) (by omega) (congrArg (fun z => Value.pointer (some (ad.add (z * 1)))) (by omega))),
    (by
      intro Lq aq wq hd hj Kq hK
      rw [if_pos (wanted_none rfl)]
      have f44 := hj.val 16 44 rfl rfl (by simp) rfl (hd ⟨16, .data⟩ (by simp) rfl)
      exact opLoad hK rfl (ev f44) Try.underlying5 rfl (HC.out (k + 2) (by omega) _ ((Ext.refl None_ _).drew.trans0 hj.ext)) rfl),
    (by
      intro Lq aq wq hd hj Kq hK
      rw [if_pos (wanted_none rfl)]
      have f45 := hj.val 17 45 rfl rfl (by simp) rfl (hd ⟨17, .data⟩ (by simp) rfl)
      exact opConvInt hK rfl (k' := .i64) (ev f45) (by kernel_rfl) (by kernel_rfl) (by kernel_rfl) (congrArg (Value.int IntKind.i64) (IntWalk.i64_in _ (by omega)))),
    (by
      intro Lq aq wq hd hj Kq hK
      rw [if_pos (wanted_none rfl)]
      have f46 := hj.val 18 46 rfl rfl (by simp) rfl (hd ⟨18, .data⟩ (by simp) rfl)
      exact opBin hK rfl (ev f46) rfl (guardInt _ _ _ _ _ _ _ _ _) (binShl64 _ _ _ _ _ _ (by decide) (by decide)) (congrArg (Value.int IntKind.i64) (show IntKind.i64.wrap (rd l ((k : Int) + 2) * 65536) = rd l ((k : Int) + 2) * 65536 from IntWalk.i64_in _ (by omega)))),
    (by
      intro Lq aq wq hd hj Kq hK
      rw [if_pos (wanted_none rfl)]
      have f40 := hj.val 12 40 rfl rfl (by simp) rfl (hd ⟨12, .data⟩ (by simp) rfl)
      have f47 := hj.val 19 47 rfl rfl (by simp) rfl (hd ⟨19, .data⟩ (by simp) rfl)
      exact opBin hK rfl (ev f40) (ev f47) (guardInt _ _ _ _ _ _ _ _ _) (binOr64 _ _ _ _ _) (congrArg (Value.int IntKind.i64) HV.out.2.1)),
    (by
      intro Lq aq wq hd hj Kq hK
      rw [if_pos (wanted_none rfl)]
      have f0 := hj.base 0 rfl rfl
      exact opMove hK rfl (ev f0) rfl),
    (by
      intro Lq aq wq hd hj Kq hK
      rw [if_pos (wanted_none rfl)]
      have f1 := hj.base 1 rfl rfl
      exact opMove hK rfl (ev f1) rfl),
    (by
      intro Lq aq wq hd hj Kq hK
      rw [if_pos (wanted_none rfl)]
      have f50 := hj.val 22 50 rfl rfl (by simp) rfl (hd ⟨22, .data⟩ (by simp) rfl)
      exact opBin hK rfl (ev f50) rfl (guardInt _ _ _ _ _ _ _ _ _) (binAdd _ _ _ _ (IntWalk.i64_in _ (by omega))) rfl),
    (by
      intro Lq aq wq hd hj Kq hK
      rw [if_pos (wanted_none rfl)]
      have f49 := hj.val 21 49 rfl rfl (by simp) rfl (hd ⟨21, .data⟩ (by simp) rfl)
      have f51 := hj.val 23 51 rfl rfl (by simp) rfl (hd ⟨23, .data⟩ (by simp) rfl)
      exact opIndex hK rfl (k := .i64) (i := ((k : Int) + 3)) (ev f49) (ev f51) Try.underlying22 u8size (by omega) (by omega) (congrArg (fun z => Value.pointer (some (ad.add (z * 1)))) (by omega))),
    (by
      intro Lq aq wq hd hj Kq hK
      rw [if_pos (wanted_none rfl)]
      have f52 := hj.val 24 52 rfl rfl (by simp) rfl (hd ⟨24, .data⟩ (by simp) rfl)
      exact opLoad hK rfl (ev f52) Try.underlying5 rfl (HC.out (k + 3) (by omega) _ ((Ext.refl None_ _).drew.trans0 hj.ext)) rfl),
    (by
      intro Lq aq wq hd hj Kq hK
      rw [if_pos (wanted_none rfl)]
      have f53 := hj.val 25 53 rfl rfl (by simp) rfl (hd ⟨25, .data⟩ (by simp) rfl)
      exact opConvInt hK rfl (k' := .i64) (ev f53) (by kernel_rfl) (by kernel_rfl) (by kernel_rfl) (congrArg (Value.int IntKind.i64) (IntWalk.i64_in _ (by omega)))),
    (by
      intro Lq aq wq hd hj Kq hK
      rw [if_pos (wanted_none rfl)]
      have f54 := hj.val 26 54 rfl rfl (by simp) rfl (hd ⟨26, .data⟩ (by simp) rfl)
      exact opBin hK rfl (ev f54) rfl (guardInt _ _ _ _ _ _ _ _ _) (binShl64 _ _ _ _ _ _ (by decide) (by decide)) (congrArg (Value.int IntKind.i64) (show IntKind.i64.wrap (rd l ((k : Int) + 3) * 16777216) = rd l ((k : Int) + 3) * 16777216 from IntWalk.i64_in _ (by omega)))),
    (by
      intro Lq aq wq hd hj Kq hK
      rw [if_pos (wanted_none rfl)]
      have f48 := hj.val 20 48 rfl rfl (by simp) rfl (hd ⟨20, .data⟩ (by simp) rfl)
      have f55 := hj.val 27 55 rfl rfl (by simp) rfl (hd ⟨27, .data⟩ (by simp) rfl)
      exact opBin hK rfl (ev f48) (ev f55) (guardInt _ _ _ _ _ _ _ _ _) (binOr64 _ _ _ _ _) (congrArg (Value.int IntKind.i64) HV.out.2.2)),
    (by
      intro Lq aq wq hd hj Kq hK
      rw [if_pos (wanted_none rfl)]
      have f56 := hj.val 28 56 rfl rfl (by simp) rfl (hd ⟨28, .data⟩ (by simp) rfl)
      exact opAssign hK rfl (ev f56) rfl),
    trivial⟩ ?fin
  case fin =>
    intro vs w9 hx hg
    have v28 : vs 28 = _ := hg 28 (by decide)
    have v29 : vs 29 = _ := hg 29 (by decide)
    have X := Lib.hid ((Ext.refl None_ w).drew.trans0 hx)
    rw [← HNN.out] at v28 v29
    clear hx hg b00 b01 b10 b11 b20 b21 b30 b31
    simp only [putAll, v28, v29, Nat.reduceAdd, Nat.zero_add]
    simp only [Act.put, List.setIfInBounds_toArray, List.set_cons_succ, List.set_cons_zero]
    go_wp2_with (first
      | (at_builtin; refine app8 rfl (.tmp 66) (.tmp 74) rfl (.slice (some ⟨w9.heap.size, 0, none⟩) 0 0) [] p A8 (c - (k + 8)) rfl (by rw [HPL.out]; rfl) (made0 w9) (HP8.out _ (X.out.trans0 (x0 _ _))) (by rw [HPL.out, List.length_nil]; omega) ?_; intro v1 w1 ho1 hx1; obtain ⟨ha1, ha2⟩ := appNew (x0 w9 _) (OwnB.mono (made0 w9) (fun k _ e => e)) ho1 hx1; rw [List.nil_append] at ha1; obtain ⟨Ap, cp, rfl, hrp⟩ := own_sl ha1; have HX1 := Lib.hid (X.out.trans0 ha2); have HO1 := Lib.hid (OwnB.mono ha1 (fun q _ hk => Nat.le_trans X.out.size hk)); rw [HPL.out]; clear ho1 hx1 ha1 ha2 hrp X)
      | (go_at_call 71; have hra := radd_any 0#32 A4 (c - k) q _ (HP4.out _ HX1.out) HBQ.out (by rw [HQL.out]; omega); rw [HQL.out, show nt 0#32 = 0 from rfl] at hra; refine hra.mono ?_; rintro e w2 ⟨rfl, rfl⟩; clear hra HP4)
      | (go_at_call 71; have hra := radd_any (sumOf 0#32 q) Ap cp p _ (own_row HO1.out) HBP.out (by rw [HPL.out]; omega); rw [HPL.out, ← HS.out] at hra; refine hra.mono ?_; rintro e w3 ⟨rfl, rfl⟩; clear hra HBP)
      | (go_at_call 76; refine (rfour_any S _).mono ?_; rintro e wC ⟨v4, rfl, ho4, hx4⟩; obtain ⟨Ac, cc, rfl, hrc⟩ := own_sl ho4; have HXC := Lib.hid (HX1.out.trans0 hx4); have HOC := Lib.hid (OwnB.ext0 HO1.out hx4); obtain ⟨ac, rfl⟩ := hrc.some (by rw [B8_length, le4_len]; omega); have HLC : Hid (∀ W, Ext None_ wC W → Row W (some ac) (B8 (le4 S))) := Lib.hid (fun W hx => hrc.ext0 hx); rw [le4_len]; clear ho4 hrc hx4 HX1 HO1))
    go_loopw [10] (fun v10 wr => ∃ i : Nat, v10 = .int .i64 i ∧ i ≤ 4 ∧ Hid (∀ j : Nat, j < i → rd (le4 S) j = rd l ((k + 4 + j : Nat) : Int)) ∧ Hid (Ext None_ wC wr)) (fun v10 _ => 4 - (intOf v10).toNat)
    case atStart => exact ⟨0, rfl, by omega, Lib.hid (fun j hj => absurd hj (by omega)), Lib.hid (Ext.refl _ _)⟩
    case round =>
      obtain ⟨i, rfl, hi, heq, hxr⟩ := hrel
      by_cases hi4 : i < 4
      · by_cases hsame : rd (le4 S) (i : Int) = rd l ((k + 4 + i : Nat) : Int)
        · have hcmp : (rd (le4 S) (i : Int) != rd l ((k + 4 + i : Nat) : Int)) = false := by simp [hsame]
          have HSAME := Lib.hid hsame
          clear hsame
          go_wp2_with fail
          refine wp_region_mem [sv _, sv _, sv (.pointer (some (ac.add (i * 1)))), sv (.int .u8 (rd (le4 S) (i : Int))), sv _, sv _, sv _, sv _, sv _, sv (.pointer (some (ad.add ((k + 4 + i) * 1)))), sv (.int .u8 (rd l ((k + 4 + i : Nat) : Int))), sv (.bool false)] (by kernel_rfl) rfl rfl rfl rfl ⟨
            (by
              intro Lq aq wq hd hj Kq hK
              rw [if_pos (wanted_none rfl)]
              have f9 := hj.base 9 rfl rfl
              exact opMove hK rfl (ev f9) rfl),
            (by
              intro Lq aq wq hd hj Kq hK
              rw [if_pos (wanted_none rfl)]
              have f10 := hj.base 10 rfl rfl
              exact opMove hK rfl (ev f10) rfl),
            (by
              intro Lq aq wq hd hj Kq hK
              rw [if_pos (wanted_none rfl)]
              have f89 := hj.val 0 89 rfl rfl (by simp) rfl (hd ⟨0, .data⟩ (by simp) rfl)
              have f90 := hj.val 1 90 rfl rfl (by simp) rfl (hd ⟨1, .data⟩ (by simp) rfl)
              exact opIndex hK rfl (k := .i64) (i := (i : Int)) (ev f89) (ev f90) Try.underlying22 u8size (by omega) (by omega) (congrArg (fun z => Value.pointer (some (ac.add (z * 1)))) (show (i : Int).toNat = i by omega))),
            (by
              intro Lq aq wq hd hj Kq hK
              rw [if_pos (wanted_none rfl)]
              have f91 := hj.val 2 91 rfl rfl (by simp) rfl (hd ⟨2, .data⟩ (by simp) rfl)
              exact opLoad hK rfl (ev f91) Try.underlying5 rfl (cell_rd (HLC.out _ (hxr.out.trans0 ((Ext.refl None_ _).drew.trans0 hj.ext))) i (by rw [le4_len]; omega)) rfl),
            (by
              intro Lq aq wq hd hj Kq hK
              rw [if_pos (wanted_none rfl)]
              have f0 := hj.base 0 rfl rfl
              exact opMove hK rfl (ev f0) rfl),
            (by
              intro Lq aq wq hd hj Kq hK
              rw [if_pos (wanted_none rfl)]
              have f1 := hj.base 1 rfl rfl
              exact opMove hK rfl (ev f1) rfl),
            (by
              intro Lq aq wq hd hj Kq hK
              rw [if_pos (wanted_none rfl)]
              have f94 := hj.val 5 94 rfl rfl (by simp) rfl (hd ⟨5, .data⟩ (by simp) rfl)
              exact opBin hK rfl (ev f94) rfl (guardInt _ _ _ _ _ _ _ _ _) (binAdd _ _ _ _ (IntWalk.i64_in _ (by omega))) rfl),
            (by
              intro Lq aq wq hd hj Kq hK
              rw [if_pos (wanted_none rfl)]
              have f10 := hj.base 10 rfl rfl
              exact opMove hK rfl (ev f10) rfl),
            (by
              intro Lq aq wq hd hj Kq hK
              rw [if_pos (wanted_none rfl)]
              have f95 := hj.val 6 95 rfl rfl (by simp) rfl (hd ⟨6, .data⟩ (by simp) rfl)
              have f96 := hj.val 7 96 rfl rfl (by simp) rfl (hd ⟨7, .data⟩ (by simp) rfl)
              exact opBin hK rfl (ev f95) (ev f96) (guardInt _ _ _ _ _ _ _ _ _) (binAdd _ _ _ _ (IntWalk.i64_in _ (by omega))) rfl),
            (by
              intro Lq aq wq hd hj Kq hK
              rw [if_pos (wanted_none rfl)]
              have f93 := hj.val 4 93 rfl rfl (by simp) rfl (hd ⟨4, .data⟩ (by simp) rfl)
              have f97 := hj.val 8 97 rfl rfl (by simp) rfl (hd ⟨8, .data⟩ (by simp) rfl)
              exact opIndex hK rfl (k := .i64) (i := ((k : Int) + 4 + i)) (ev f93) (ev f97) Try.underlying22 u8size (by omega) (by omega) (congrArg (fun z => Value.pointer (some (ad.add (z * 1)))) (show ((k : Int) + 4 + i).toNat = k + 4 + i by omega))),
            (by
              intro Lq aq wq hd hj Kq hK
              rw [if_pos (wanted_none rfl)]
              have f98 := hj.val 9 98 rfl rfl (by simp) rfl (hd ⟨9, .data⟩ (by simp) rfl)
              exact opLoad hK rfl (ev f98) Try.underlying5 rfl (HC.out (k + 4 + i) (by omega) _ ((HXC.out.trans0 hxr.out).trans0 ((Ext.refl None_ _).drew.trans0 hj.ext))) rfl),
            (by
              intro Lq aq wq hd hj Kq hK
              rw [if_pos (wanted_none rfl)]
              have f92 := hj.val 3 92 rfl rfl (by simp) rfl (hd ⟨3, .data⟩ (by simp) rfl)
              have f99 := hj.val 10 99 rfl rfl (by simp) rfl (hd ⟨10, .data⟩ (by simp) rfl)
              exact opBin hK rfl (ev f92) (ev f99) (guardInt _ _ _ _ _ _ _ _ _) (binNeInt _ _ _ _ _) (congrArg Value.bool hcmp)),
            trivial⟩ ?fin
          case fin =>
            intro vs2 w10 hx hg
            have v11 : vs2 11 = _ := hg 11 (by decide)
            have hxy := Lib.hid (hxr.out.trans0 ((Ext.refl None_ _).drew.trans0 hx))
            clear hx hg
            simp only [putAll, v11, Nat.reduceAdd, Nat.zero_add]
            simp only [Act.put, List.setIfInBounds_toArray, List.set_cons_succ, List.set_cons_zero]
            go_wp2_with fail
            go_roundw
            case rel => exact ⟨i + 1, by go_num, by omega, Lib.hid (fun j hj => by
              rcases Nat.lt_or_ge j i with hji | hji
              · exact heq.out j hji
              · have : j = i := by omega
                subst this
                exact HSAME.out), hxy⟩
            case measure => simp [intOf]; omega
        · have hcmp : (rd (le4 S) (i : Int) != rd l ((k + 4 + i : Nat) : Int)) = true := bne_iff_ne.2 hsame
          have HDIF := Lib.hid hsame
          clear hsame
          go_wp2_with fail
          refine wp_region_mem [sv _, sv _, sv (.pointer (some (ac.add (i * 1)))), sv (.int .u8 (rd (le4 S) (i : Int))), sv _, sv _, sv _, sv _, sv _, sv (.pointer (some (ad.add ((k + 4 + i) * 1)))), sv (.int .u8 (rd l ((k + 4 + i : Nat) : Int))), sv (.bool true)] (by kernel_rfl) rfl rfl rfl rfl ⟨
            (by
              intro Lq aq wq hd hj Kq hK
              rw [if_pos (wanted_none rfl)]
              have f9 := hj.base 9 rfl rfl
              exact opMove hK rfl (ev f9) rfl),
            (by
              intro Lq aq wq hd hj Kq hK
              rw [if_pos (wanted_none rfl)]
              have f10 := hj.base 10 rfl rfl
              exact opMove hK rfl (ev f10) rfl),
            (by
              intro Lq aq wq hd hj Kq hK
              rw [if_pos (wanted_none rfl)]
              have f89 := hj.val 0 89 rfl rfl (by simp) rfl (hd ⟨0, .data⟩ (by simp) rfl)
              have f90 := hj.val 1 90 rfl rfl (by simp) rfl (hd ⟨1, .data⟩ (by simp) rfl)
              exact opIndex hK rfl (k := .i64) (i := (i : Int)) (ev f89) (ev f90) Try.underlying22 u8size (by omega) (by omega) (congrArg (fun z => Value.pointer (some (ac.add (z * 1)))) (show (i : Int).toNat = i by omega))),
            (by
              intro Lq aq wq hd hj Kq hK
              rw [if_pos (wanted_none rfl)]
              have f91 := hj.val 2 91 rfl rfl (by simp) rfl (hd ⟨2, .data⟩ (by simp) rfl)
              exact opLoad hK rfl (ev f91) Try.underlying5 rfl (cell_rd (HLC.out _ (hxr.out.trans0 ((Ext.refl None_ _).drew.trans0 hj.ext))) i (by rw [le4_len]; omega)) rfl),
            (by
              intro Lq aq wq hd hj Kq hK
              rw [if_pos (wanted_none rfl)]
              have f0 := hj.base 0 rfl rfl
              exact opMove hK rfl (ev f0) rfl),
            (by
              intro Lq aq wq hd hj Kq hK
              rw [if_pos (wanted_none rfl)]
              have f1 := hj.base 1 rfl rfl
              exact opMove hK rfl (ev f1) rfl),
            (by
              intro Lq aq wq hd hj Kq hK
              rw [if_pos (wanted_none rfl)]
              have f94 := hj.val 5 94 rfl rfl (by simp) rfl (hd ⟨5, .data⟩ (by simp) rfl)
              exact opBin hK rfl (ev f94) rfl (guardInt _ _ _ _ _ _ _ _ _) (binAdd _ _ _ _ (IntWalk.i64_in _ (by omega))) rfl),
            (by
              intro Lq aq wq hd hj Kq hK
              rw [if_pos (wanted_none rfl)]
              have f10 := hj.base 10 rfl rfl
              exact opMove hK rfl (ev f10) rfl),
            (by
              intro Lq aq wq hd hj Kq hK
              rw [if_pos (wanted_none rfl)]
              have f95 := hj.val 6 95 rfl rfl (by simp) rfl (hd ⟨6, .data⟩ (by simp) rfl)
              have f96 := hj.val 7 96 rfl rfl (by simp) rfl (hd ⟨7, .data⟩ (by simp) rfl)
              exact opBin hK rfl (ev f95) (ev f96) (guardInt _ _ _ _ _ _ _ _ _) (binAdd _ _ _ _ (IntWalk.i64_in _ (by omega))) rfl),
            (by
              intro Lq aq wq hd hj Kq hK
              rw [if_pos (wanted_none rfl)]
              have f93 := hj.val 4 93 rfl rfl (by simp) rfl (hd ⟨4, .data⟩ (by simp) rfl)
              have f97 := hj.val 8 97 rfl rfl (by simp) rfl (hd ⟨8, .data⟩ (by simp) rfl)
              exact opIndex hK rfl (k := .i64) (i := ((k : Int) + 4 + i)) (ev f93) (ev f97) Try.underlying22 u8size (by omega) (by omega) (congrArg (fun z => Value.pointer (some (ad.add (z * 1)))) (show ((k : Int) + 4 + i).toNat = k + 4 + i by omega))),
            (by
              intro Lq aq wq hd hj Kq hK
              rw [if_pos (wanted_none rfl)]
              have f98 := hj.val 9 98 rfl rfl (by simp) rfl (hd ⟨9, .data⟩ (by simp) rfl)
              exact opLoad hK rfl (ev f98) Try.underlying5 rfl (HC.out (k + 4 + i) (by omega) _ ((HXC.out.trans0 hxr.out).trans0 ((Ext.refl None_ _).drew.trans0 hj.ext))) rfl),
            (by
              intro Lq aq wq hd hj Kq hK
              rw [if_pos (wanted_none rfl)]
              have f92 := hj.val 3 92 rfl rfl (by simp) rfl (hd ⟨3, .data⟩ (by simp) rfl)
              have f99 := hj.val 10 99 rfl rfl (by simp) rfl (hd ⟨10, .data⟩ (by simp) rfl)
              exact opBin hK rfl (ev f92) (ev f99) (guardInt _ _ _ _ _ _ _ _ _) (binNeInt _ _ _ _ _) (congrArg Value.bool hcmp)),
            trivial⟩ ?fin
          case fin =>
            intro vs2 w10 hx hg
            have v11 : vs2 11 = _ := hg 11 (by decide)
            have hxy := Lib.hid (hxr.out.trans0 ((Ext.refl None_ _).drew.trans0 hx))
            clear hx hg
            simp only [putAll, v11, Nat.reduceAdd, Nat.zero_add]
            simp only [Act.put, List.setIfInBounds_toArray, List.set_cons_succ, List.set_cons_zero]
            go_wp2_with fail
            go_ret3
            have hne : nt S ≠ hn (R.drop 4) := fun e => by
              have h1 := (le4_hn S _ HBD.out).1 e
              apply HDIF.out
              rw [← HR4.out]
              rw [h1]
              rcases (by omega : i = 0 ∨ i = 1 ∨ i = 2 ∨ i = 3) with rfl | rfl | rfl | rfl <;> rfl
            exact nextP.bad (HF6.out hne) (HXC.out.trans0 hxy.out)
      · go_wp2_with fail
        go_ret3
        have h4 : i = 4 := by omega
        subst h4
        have hfin := HF0.out ((le4_hn S _ HBD.out).2 (le4_all S _ (fun j hj => by rw [HR4.out]; exact heq.out j hj)))
        unfold nextP
        rw [hfin]
        exact ⟨_, rfl, by have := OwnB.ext0 HOC.out hxr.out; exact (HPL.out ▸ this), HXC.out.trans0 hxr.out⟩
theorem rnext_any (A : Option Addr) (c : Nat) (l : List Int) (k : Int) (w : World) (hrow : Row w A (B8 l)) (hb : Byt l) (hc : l.length ≤ c) (hlen : l.length ≤ 140737488355328) : Calls Try.prog 74 #[.slice A l.length c, .int .i64 k] w (nextP l k w) := by
  by_cases h0 : k < 0 ∨ (l.length : Int) < k
  · exact rnext_arg A c l k w (by omega) h0
  · obtain ⟨j, rfl⟩ : ∃ j : Nat, k = j := ⟨k.toNat, by omega⟩
    by_cases h1 : j = l.length
    · subst h1
      exact rnext_end A c l w (by omega)
    · obtain ⟨R, n, Ar, h⟩ := At.mk' A c l j w hrow hb hc hlen (by omega)
      obtain ⟨ad, rfl⟩ := hrow.some (by rw [B8_length]; omega)
      by_cases h2 : R.length < 8
      · exact rnext_short ad c l j R n Ar w h hrow hb h2
      · by_cases h3 : 16384 < n
        · exact rnext_long ad c l j R n Ar w h hrow hb h2 h3
        · by_cases h4 : (R.length : Int) - 8 < n
          · exact rnext_torn ad c l j R n Ar w h hrow hb h2 h3 h4
          · exact rnext_tail ad c l j R n Ar w h hrow hb h2 h3 h4
end Go.Proofs.Ytghkgfeamijefaa
