/- Package frame, walked: number, four. Written by gen_frame.py. -/
import Derived.Test.YtghkgfeamijefaaSum3
import Derived.Test.YtghkgfeamijefaaReg3
set_option linter.unusedVariables false
set_option linter.unusedSimpArgs false
namespace Go.Proofs.Ytghkgfeamijefaa
open Go.RowKit B
theorem or_chain' (a b c d : Int) (ha : 0 ≤ a ∧ a < 256) (hb : 0 ≤ b ∧ b < 256) (hc : 0 ≤ c ∧ c < 256) (hd : 0 ≤ d ∧ d < 256) :
    Go.bits .or .u32 a (b * 256) = a + 256 * b ∧ Go.bits .or .u32 (a + 256 * b) (c * 65536) = a + 256 * b + 65536 * c ∧ Go.bits .or .u32 (a + 256 * b + 65536 * c) (d * 16777216) = val4 a b c d := by
  obtain ⟨a, rfl⟩ := Int.eq_ofNat_of_zero_le ha.1
  obtain ⟨b, rfl⟩ := Int.eq_ofNat_of_zero_le hb.1
  obtain ⟨c, rfl⟩ := Int.eq_ofNat_of_zero_le hc.1
  obtain ⟨d, rfl⟩ := Int.eq_ofNat_of_zero_le hd.1
  have h1 := or_add a b 8 (by omega) (by omega)
  have h2 := or_add (a + b * 2 ^ 8) c 16 (by omega) (by omega)
  have h3 := or_add (a + b * 2 ^ 8 + c * 2 ^ 16) d 24 (by omega) (by omega)
  rw [show ((b * 2 ^ 8 : Nat) : Int) = (b : Int) * 256 by omega, show ((a + b * 2 ^ 8 : Nat) : Int) = (a : Int) + 256 * b by omega] at h1
  rw [show ((c * 2 ^ 16 : Nat) : Int) = (c : Int) * 65536 by omega, show ((a + b * 2 ^ 8 : Nat) : Int) = (a : Int) + 256 * b by omega, show ((a + b * 2 ^ 8 + c * 2 ^ 16 : Nat) : Int) = (a : Int) + 256 * b + 65536 * c by omega] at h2
  rw [show ((d * 2 ^ 24 : Nat) : Int) = (d : Int) * 16777216 by omega, show ((a + b * 2 ^ 8 + c * 2 ^ 16 : Nat) : Int) = (a : Int) + 256 * b + 65536 * c by omega, show ((a + b * 2 ^ 8 + c * 2 ^ 16 + d * 2 ^ 24 : Nat) : Int) = val4 a b c d by unfold val4; omega] at h3
  exact ⟨h1, h2, h3⟩
theorem cell_rd {w : World} {ad : Addr} {l : List Int} (h : Row w (some ad) (B8 l)) (i : Nat) (hi : i < l.length) : w.cell? (ad.add (i * 1)) = some (.int .u8 (rd l i)) := by
  have := h.at_ (i := i) (by rw [B8_length]; exact hi)
  rw [Nat.mul_one, this]
  unfold rd
  simp [B8, List.getD_eq_getElem?_getD, hi]
theorem u8size : (Try.prog.info? 5).map (·.size) = some 1 := by kernel_rfl
theorem wrap32_in (n : Int) (h0 : 0 ≤ n) (h1 : n < 4294967296) : IntKind.u32.wrap n = n := by rw [IntKind.wrap_u32]; omega
set_option maxRecDepth 100000 in
set_option maxHeartbeats 4000000 in
theorem number_any (A : Option Addr) (c : Nat) (l : List Int) (w : World) (hrow : Row w A (B8 l)) (hb : Byt l) (h4 : 4 ≤ l.length) :
    Calls Try.prog 88 #[.slice A l.length c] w fun e w' => e = .returned (.int .u32 (val4 (rd l 0) (rd l 1) (rd l 2) (rd l 3))) ∧ Ext None_ w w' := by
  obtain ⟨ad, rfl⟩ := hrow.some (by rw [B8_length]; omega)
  have HC := Lib.hid (fun (i : Nat) (hi : i < l.length) (W : World) (hx : Ext None_ w W) => cell_rd (hrow.ext0 hx) i hi)
  obtain ⟨b00, b01⟩ := rd_byte l hb 0
  obtain ⟨b10, b11⟩ := rd_byte l hb 1
  obtain ⟨b20, b21⟩ := rd_byte l hb 2
  obtain ⟨b30, b31⟩ := rd_byte l hb 3
  have HV := Lib.hid (or_chain' (rd l 0) (rd l 1) (rd l 2) (rd l 3) (rd_byte l hb 0) (rd_byte l hb 1) (rd_byte l hb 2) (rd_byte l hb 3))
  clear hrow hb
  go_enter Try.func88, Try.ntmps88
  go_wp2_with fail
  refine wp_region_mem [sv (.slice (some ad) l.length c), sv (.pointer (some (ad.add (0 * 1)))), sv (.int .u8 (rd l 0)), sv (.int .u32 (rd l 0)), sv (.slice (some ad) l.length c), sv (.pointer (some (ad.add (1 * 1)))), sv (.int .u8 (rd l 1)), sv (.int .u32 (rd l 1)), sv (.int .u32 (rd l 1 * 256)), sv (.int .u32 (rd l 0 + 256 * rd l 1)), sv (.slice (some ad) l.length c), sv (.pointer (some (ad.add (2 * 1)))), sv (.int .u8 (rd l 2)), sv (.int .u32 (rd l 2)), sv (.int .u32 (rd l 2 * 65536)), sv (.int .u32 (rd l 0 + 256 * rd l 1 + 65536 * rd l 2)), sv (.slice (some ad) l.length c), sv (.pointer (some (ad.add (3 * 1)))), sv (.int .u8 (rd l 3)), sv (.int .u32 (rd l 3)), sv (.int .u32 (rd l 3 * 16777216)), sv (.int .u32 (val4 (rd l 0) (rd l 1) (rd l 2) (rd l 3))), sv (.int .u32 (val4 (rd l 0) (rd l 1) (rd l 2) (rd l 3)))] (by kernel_rfl) rfl rfl rfl rfl ⟨?_, ?_, ?_, ?_, ?_, ?_, ?_, ?_, ?_, ?_, ?_, ?_, ?_, ?_, ?_, ?_, ?_, ?_, ?_, ?_, ?_, ?_, ?_, trivial⟩ ?_
  · intro L a w1 hd hj K hK
    rw [if_pos (wanted_none rfl)]
    have f0 := hj.base 0 rfl rfl
    exact opMove hK rfl (ev f0) rfl
  · intro L a w1 hd hj K hK
    rw [if_pos (wanted_none rfl)]
    have f3 := hj.val 0 3 rfl rfl (by simp) rfl (hd ⟨0, .data⟩ (by simp) rfl)
    exact opIndex hK rfl (k := .i64) (ev f3) rfl Try.underlying22 u8size (by decide) (by omega) rfl
  · intro L a w1 hd hj K hK
    rw [if_pos (wanted_none rfl)]
    have f4 := hj.val 1 4 rfl rfl (by simp) rfl (hd ⟨1, .data⟩ (by simp) rfl)
    exact opLoad hK rfl (ev f4) Try.underlying5 rfl (HC.out 0 (by omega) _ ((Ext.refl _ _).drew.trans0 hj.ext)) rfl
  · intro L a w1 hd hj K hK
    rw [if_pos (wanted_none rfl)]
    have f5 := hj.val 2 5 rfl rfl (by simp) rfl (hd ⟨2, .data⟩ (by simp) rfl)
    exact opConvInt hK rfl (k' := .u32) (ev f5) (by kernel_rfl) (by kernel_rfl) (by kernel_rfl) (congrArg (Value.int IntKind.u32) (wrap32_in _ (by omega) (by omega)))
  · intro L a w1 hd hj K hK
    rw [if_pos (wanted_none rfl)]
    have f0 := hj.base 0 rfl rfl
    exact opMove hK rfl (ev f0) rfl
  · intro L a w1 hd hj K hK
    rw [if_pos (wanted_none rfl)]
    have f7 := hj.val 4 7 rfl rfl (by simp) rfl (hd ⟨4, .data⟩ (by simp) rfl)
    exact opIndex hK rfl (k := .i64) (ev f7) rfl Try.underlying22 u8size (by decide) (by omega) rfl
  · intro L a w1 hd hj K hK
    rw [if_pos (wanted_none rfl)]
    have f8 := hj.val 5 8 rfl rfl (by simp) rfl (hd ⟨5, .data⟩ (by simp) rfl)
    exact opLoad hK rfl (ev f8) Try.underlying5 rfl (HC.out 1 (by omega) _ ((Ext.refl _ _).drew.trans0 hj.ext)) rfl
  · intro L a w1 hd hj K hK
    rw [if_pos (wanted_none rfl)]
    have f9 := hj.val 6 9 rfl rfl (by simp) rfl (hd ⟨6, .data⟩ (by simp) rfl)
    exact opConvInt hK rfl (k' := .u32) (ev f9) (by kernel_rfl) (by kernel_rfl) (by kernel_rfl) (congrArg (Value.int IntKind.u32) (wrap32_in _ (by omega) (by omega)))
  · intro L a w1 hd hj K hK
    rw [if_pos (wanted_none rfl)]
    have f10 := hj.val 7 10 rfl rfl (by simp) rfl (hd ⟨7, .data⟩ (by simp) rfl)
    exact opBin hK rfl (ev f10) rfl (guardInt _ _ _ _ _ _ _ _ _) (binShl32 _ _ _ _ _ (by decide) (by decide)) (congrArg (Value.int IntKind.u32) (show IntKind.u32.wrap (rd l 1 * 256) = rd l 1 * 256 from wrap32_in _ (by omega) (by omega)))
  · intro L a w1 hd hj K hK
    rw [if_pos (wanted_none rfl)]
    have f6 := hj.val 3 6 rfl rfl (by simp) rfl (hd ⟨3, .data⟩ (by simp) rfl)
    have f11 := hj.val 8 11 rfl rfl (by simp) rfl (hd ⟨8, .data⟩ (by simp) rfl)
    exact opBin hK rfl (ev f6) (ev f11) (guardInt _ _ _ _ _ _ _ _ _) (binOr32 _ _ _ _) (congrArg (Value.int IntKind.u32) HV.out.1)
  · intro L a w1 hd hj K hK
    rw [if_pos (wanted_none rfl)]
    have f0 := hj.base 0 rfl rfl
    exact opMove hK rfl (ev f0) rfl
  · intro L a w1 hd hj K hK
    rw [if_pos (wanted_none rfl)]
    have f13 := hj.val 10 13 rfl rfl (by simp) rfl (hd ⟨10, .data⟩ (by simp) rfl)
    exact opIndex hK rfl (k := .i64) (ev f13) rfl Try.underlying22 u8size (by decide) (by omega) rfl
  · intro L a w1 hd hj K hK
    rw [if_pos (wanted_none rfl)]
    have f14 := hj.val 11 14 rfl rfl (by simp) rfl (hd ⟨11, .data⟩ (by simp) rfl)
    exact opLoad hK rfl (ev f14) Try.underlying5 rfl (HC.out 2 (by omega) _ ((Ext.refl _ _).drew.trans0 hj.ext)) rfl
  · intro L a w1 hd hj K hK
    rw [if_pos (wanted_none rfl)]
    have f15 := hj.val 12 15 rfl rfl (by simp) rfl (hd ⟨12, .data⟩ (by simp) rfl)
    exact opConvInt hK rfl (k' := .u32) (ev f15) (by kernel_rfl) (by kernel_rfl) (by kernel_rfl) (congrArg (Value.int IntKind.u32) (wrap32_in _ (by omega) (by omega)))
  · intro L a w1 hd hj K hK
    rw [if_pos (wanted_none rfl)]
    have f16 := hj.val 13 16 rfl rfl (by simp) rfl (hd ⟨13, .data⟩ (by simp) rfl)
    exact opBin hK rfl (ev f16) rfl (guardInt _ _ _ _ _ _ _ _ _) (binShl32 _ _ _ _ _ (by decide) (by decide)) (congrArg (Value.int IntKind.u32) (show IntKind.u32.wrap (rd l 2 * 65536) = rd l 2 * 65536 from wrap32_in _ (by omega) (by omega)))
  · intro L a w1 hd hj K hK
    rw [if_pos (wanted_none rfl)]
    have f12 := hj.val 9 12 rfl rfl (by simp) rfl (hd ⟨9, .data⟩ (by simp) rfl)
    have f17 := hj.val 14 17 rfl rfl (by simp) rfl (hd ⟨14, .data⟩ (by simp) rfl)
    exact opBin hK rfl (ev f12) (ev f17) (guardInt _ _ _ _ _ _ _ _ _) (binOr32 _ _ _ _) (congrArg (Value.int IntKind.u32) HV.out.2.1)
  · intro L a w1 hd hj K hK
    rw [if_pos (wanted_none rfl)]
    have f0 := hj.base 0 rfl rfl
    exact opMove hK rfl (ev f0) rfl
  · intro L a w1 hd hj K hK
    rw [if_pos (wanted_none rfl)]
    have f19 := hj.val 16 19 rfl rfl (by simp) rfl (hd ⟨16, .data⟩ (by simp) rfl)
    exact opIndex hK rfl (k := .i64) (ev f19) rfl Try.underlying22 u8size (by decide) (by omega) rfl
  · intro L a w1 hd hj K hK
    rw [if_pos (wanted_none rfl)]
    have f20 := hj.val 17 20 rfl rfl (by simp) rfl (hd ⟨17, .data⟩ (by simp) rfl)
    exact opLoad hK rfl (ev f20) Try.underlying5 rfl (HC.out 3 (by omega) _ ((Ext.refl _ _).drew.trans0 hj.ext)) rfl
  · intro L a w1 hd hj K hK
    rw [if_pos (wanted_none rfl)]
    have f21 := hj.val 18 21 rfl rfl (by simp) rfl (hd ⟨18, .data⟩ (by simp) rfl)
    exact opConvInt hK rfl (k' := .u32) (ev f21) (by kernel_rfl) (by kernel_rfl) (by kernel_rfl) (congrArg (Value.int IntKind.u32) (wrap32_in _ (by omega) (by omega)))
  · intro L a w1 hd hj K hK
    rw [if_pos (wanted_none rfl)]
    have f22 := hj.val 19 22 rfl rfl (by simp) rfl (hd ⟨19, .data⟩ (by simp) rfl)
    exact opBin hK rfl (ev f22) rfl (guardInt _ _ _ _ _ _ _ _ _) (binShl32 _ _ _ _ _ (by decide) (by decide)) (congrArg (Value.int IntKind.u32) (show IntKind.u32.wrap (rd l 3 * 16777216) = rd l 3 * 16777216 from wrap32_in _ (by omega) (by omega)))
  · intro L a w1 hd hj K hK
    rw [if_pos (wanted_none rfl)]
    have f18 := hj.val 15 18 rfl rfl (by simp) rfl (hd ⟨15, .data⟩ (by simp) rfl)
    have f23 := hj.val 20 23 rfl rfl (by simp) rfl (hd ⟨20, .data⟩ (by simp) rfl)
    exact opBin hK rfl (ev f18) (ev f23) (guardInt _ _ _ _ _ _ _ _ _) (binOr32 _ _ _ _) (congrArg (Value.int IntKind.u32) HV.out.2.2)
  · intro L a w1 hd hj K hK
    rw [if_pos (wanted_none rfl)]
    have f24 := hj.val 21 24 rfl rfl (by simp) rfl (hd ⟨21, .data⟩ (by simp) rfl)
    exact opAssign hK rfl (ev f24) rfl
  intro vs w9 hx hg
  have v22 : vs 22 = .int .u32 (val4 (rd l 0) (rd l 1) (rd l 2) (rd l 3)) := hg 22 (by simp)
  have X := Lib.hid ((Ext.refl None_ w).drew.trans0 hx)
  clear hx hg
  simp only [putAll, v22, Nat.reduceAdd, Nat.zero_add]
  simp only [Act.put, List.setIfInBounds_toArray, List.set_cons_succ, List.set_cons_zero]
  go_wp2_with fail
  go_ret
  exact ⟨rfl, X.out⟩
end Go.Proofs.Ytghkgfeamijefaa
