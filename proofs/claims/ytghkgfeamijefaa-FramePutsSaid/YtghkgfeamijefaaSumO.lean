/- Packages sum and frame, walked: Open, four. Written by gen_open.py. -/
import Derived.Test.YtghkgfeamijefaaFrame
set_option linter.unusedVariables false
set_option linter.unusedSimpArgs false
namespace Go.Proofs.Ytghkgfeamijefaa
open Go.RowKit B
def v4at (l : List Int) (n : Nat) : Int := val4 (rd l n) (rd l (n + 1)) (rd l (n + 2)) (rd l (n + 3))
def openF (l : List Int) : List Int × Bool := if l.length < 4 then ([], false) else if nt (sumOf 0#32 (l.take (l.length - 4))) = v4at l (l.length - 4) then (l.take (l.length - 4), true) else ([], false)
theorem rd_nat (l : List Int) (i : Nat) : rd l (i : Int) = rd l i := rfl
set_option maxRecDepth 100000 in
set_option maxHeartbeats 8000000 in
theorem open_long (ad : Addr) (c : Nat) (l : List Int) (n : Nat) (w : World) (hn : l.length = n + 4) (hrow : Row w (some ad) (B8 l)) (hb : Byt l) (hc : l.length ≤ c) (hlen : l.length ≤ 140737488355328) (ok : Bool) (hok : decide (nt (sumOf 0#32 (l.take n)) = v4at l n) = ok) :
    Calls Try.prog 37 #[.slice (some ad) l.length c] w fun e w' => ∃ v', e = .returned (.tuple #[v', .bool ok]) ∧ OwnB w' (fun k => w.heap.size ≤ k) v' (if ok = true then l.take n else []) ∧ Ext None_ w w' := by
  have HROW := Lib.hid hrow
  have HC := Lib.hid (fun (i : Nat) (hi : i < l.length) (W : World) (hx : Ext None_ w W) => cell_rd (hrow.ext0 hx) i hi)
  obtain ⟨b00, b01⟩ := rd_byte l hb (n : Int)
  obtain ⟨b10, b11⟩ := rd_byte l hb ((n : Int) + 1)
  obtain ⟨b20, b21⟩ := rd_byte l hb ((n : Int) + 2)
  obtain ⟨b30, b31⟩ := rd_byte l hb ((n : Int) + 3)
  have HV := Lib.hid (or_chain' _ _ _ _ (rd_byte l hb (n : Int)) (rd_byte l hb ((n : Int) + 1)) (rd_byte l hb ((n : Int) + 2)) (rd_byte l hb ((n : Int) + 3)))
  obtain ⟨A', hA', hcut⟩ := cut_h (P := Try.prog) 22 5 1 Try.underlying22 infoU8 (some ad) l.length c (n : Int) (by omega) (by omega)
  have HT : ∀ W, Ext None_ w W → Row W A' (B8 (l.take n)) := fun W hx => by
    have := cut_row (lo := 0) (hi := n) (size := 1) (hrow.ext0 hx) hA' (by rw [B8_length]; omega)
    simpa [B8, List.map_take] using this
  have HT := Lib.hid HT
  have htl : (l.take n).length = n := by rw [List.length_take]; omega
  have HBT := Lib.hid (show Byt (l.take n) from fun x hx => hb x (List.mem_of_mem_take hx))
  rw [show (n : Int).toNat = n by omega, hn] at hcut
  have HOF : ∀ W, Ext None_ w W → ∀ tt, Calls Try.prog 70 #[.slice (some ⟨W.heap.size, 0, none⟩) 1 1] (W.alloc (.cells #[.slice A' n c] tt)) fun e w' => e = .returned (.int .u32 (nt (sumOf 0#32 (l.take n)))) ∧ (W.alloc (.cells #[.slice A' n c] tt)) = w' := fun W hx tt => by
    have := of_one A' c (l.take n) W tt (HT.out W hx) HBT.out (by omega) 1
    rwa [htl] at this
  have HOF := Lib.hid HOF
  obtain ⟨N1, hN1⟩ : ∃ N, N = nt (sumOf 0#32 (l.take n)) := ⟨_, rfl⟩
  obtain ⟨N2, hN2⟩ : ∃ N, N = v4at l n := ⟨_, rfl⟩
  rw [← hN1] at HOF hok
  rw [← hN2] at hok
  have hne : (N1 != N2) = !ok := by rw [← hok]; by_cases h : N1 = N2 <;> simp [h]
  have HN2 := Lib.hid hN2
  clear hrow hb hA' hok hN1 hN2
  go_enter Try.func37, Try.ntmps37
  rw [hn]
  have hsub : wrap64 (((n + 4 : Nat) : Int) - 4) = n := by rw [pw_wrap64 _ (by omega) (by omega)]; omega
  go_wp2_with fail
  refine wp_region_mem [sv (.slice (some ad) (n + 4) c), sv (.int .i64 (n : Int)), sv (.pointer (some (ad.add ((n + 0) * 1)))), sv (.int .u8 (rd l (n : Int))), sv (.int .u32 (rd l (n : Int))), sv (.slice (some ad) (n + 4) c), sv (.int .i64 (n : Int)), sv (.int .i64 ((n : Int) + 1)), sv (.pointer (some (ad.add ((n + 1) * 1)))), sv (.int .u8 (rd l ((n : Int) + 1))), sv (.int .u32 (rd l ((n : Int) + 1))), sv (.int .u32 ((rd l ((n : Int) + 1)) * 256)), sv (.int .u32 ((rd l (n : Int)) + 256 * (rd l ((n : Int) + 1)))), sv (.slice (some ad) (n + 4) c), sv (.int .i64 (n : Int)), sv (.int .i64 ((n : Int) + 2)), sv (.pointer (some (ad.add ((n + 2) * 1)))), sv (.int .u8 (rd l ((n : Int) + 2))), sv (.int .u32 (rd l ((n : Int) + 2))), sv (.int .u32 ((rd l ((n : Int) + 2)) * 65536)), sv (.int .u32 ((rd l (n : Int)) + 256 * (rd l ((n : Int) + 1)) + 65536 * (rd l ((n : Int) + 2)))), sv (.slice (some ad) (n + 4) c), sv (.int .i64 (n : Int)), sv (.int .i64 ((n : Int) + 3)), sv (.pointer (some (ad.add ((n + 3) * 1)))), sv (.int .u8 (rd l ((n : Int) + 3))), sv (.int .u32 (rd l ((n : Int) + 3))), sv (.int .u32 ((rd l ((n : Int) + 3)) * 16777216)), sv (.int .u32 (val4 (rd l (n : Int)) (rd l ((n : Int) + 1)) (rd l ((n : Int) + 2)) (rd l ((n : Int) + 3)))), sv (.int .u32 (val4 (rd l (n : Int)) (rd l ((n : Int) + 1)) (rd l ((n : Int) + 2)) (rd l ((n : Int) + 3))))] (by kernel_rfl) rfl rfl rfl rfl ⟨?_, ?_, ?_, ?_, ?_, ?_, ?_, ?_, ?_, ?_, ?_, ?_, ?_, ?_, ?_, ?_, ?_, ?_, ?_, ?_, ?_, ?_, ?_, ?_, ?_, ?_, ?_, ?_, ?_, ?_, trivial⟩ ?_
  · intro L a w1 hd hj K hK
    rw [if_pos (wanted_none rfl)]
    have f0 := hj.base 0 rfl rfl
    exact opMove hK rfl (ev f0) rfl
  · intro L a w1 hd hj K hK
    rw [if_pos (wanted_none rfl)]
    have f4 := hj.base 4 rfl rfl
    exact opMove hK rfl (ev f4) rfl
  · intro L a w1 hd hj K hK
    rw [if_pos (wanted_none rfl)]
    have f11 := hj.val 0 11 rfl rfl (by simp) rfl (hd ⟨0, .data⟩ (by simp) rfl)
    have f12 := hj.val 1 12 rfl rfl (by simp) rfl (hd ⟨1, .data⟩ (by simp) rfl)
    exact opIndex hK rfl (k := .i64) (i := (n : Int)) (ev f11) (ev f12) Try.underlying22 u8size (by omega) (by omega) (congrArg (fun z => Value.pointer (some (ad.add (z * 1)))) (by omega))
  · intro L a w1 hd hj K hK
    rw [if_pos (wanted_none rfl)]
    have f13 := hj.val 2 13 rfl rfl (by simp) rfl (hd ⟨2, .data⟩ (by simp) rfl)
    exact opLoad hK rfl (ev f13) Try.underlying5 rfl (HC.out (n + 0) (by omega) _ ((Ext.refl _ _).drew.trans0 hj.ext)) rfl
  · intro L a w1 hd hj K hK
    rw [if_pos (wanted_none rfl)]
    have f14 := hj.val 3 14 rfl rfl (by simp) rfl (hd ⟨3, .data⟩ (by simp) rfl)
    exact opConvInt hK rfl (k' := .u32) (ev f14) (by kernel_rfl) (by kernel_rfl) (by kernel_rfl) (congrArg (Value.int IntKind.u32) (wrap32_in _ (by omega) (by omega)))
  · intro L a w1 hd hj K hK
    rw [if_pos (wanted_none rfl)]
    have f0 := hj.base 0 rfl rfl
    exact opMove hK rfl (ev f0) rfl
  · intro L a w1 hd hj K hK
    rw [if_pos (wanted_none rfl)]
    have f4 := hj.base 4 rfl rfl
    exact opMove hK rfl (ev f4) rfl
  · intro L a w1 hd hj K hK
    rw [if_pos (wanted_none rfl)]
    have f17 := hj.val 6 17 rfl rfl (by simp) rfl (hd ⟨6, .data⟩ (by simp) rfl)
    exact opBin hK rfl (ev f17) rfl (guardInt _ _ _ _ _ _ _ _ _) (binAdd _ _ _ _ (IntWalk.i64_in _ (by omega))) rfl
  · intro L a w1 hd hj K hK
    rw [if_pos (wanted_none rfl)]
    have f16 := hj.val 5 16 rfl rfl (by simp) rfl (hd ⟨5, .data⟩ (by simp) rfl)
    have f18 := hj.val 7 18 rfl rfl (by simp) rfl (hd ⟨7, .data⟩ (by simp) rfl)
    exact opIndex hK rfl (k := .i64) (i := (n : Int) + 1) (ev f16) (ev f18) Try.underlying22 u8size (by omega) (by omega) (congrArg (fun z => Value.pointer (some (ad.add (z * 1)))) (by omega))
  · intro L a w1 hd hj K hK
    rw [if_pos (wanted_none rfl)]
    have f19 := hj.val 8 19 rfl rfl (by simp) rfl (hd ⟨8, .data⟩ (by simp) rfl)
    exact opLoad hK rfl (ev f19) Try.underlying5 rfl (HC.out (n + 1) (by omega) _ ((Ext.refl _ _).drew.trans0 hj.ext)) rfl
  · intro L a w1 hd hj K hK
    rw [if_pos (wanted_none rfl)]
    have f20 := hj.val 9 20 rfl rfl (by simp) rfl (hd ⟨9, .data⟩ (by simp) rfl)
    exact opConvInt hK rfl (k' := .u32) (ev f20) (by kernel_rfl) (by kernel_rfl) (by kernel_rfl) (congrArg (Value.int IntKind.u32) (wrap32_in _ (by omega) (by omega)))
  · intro L a w1 hd hj K hK
    rw [if_pos (wanted_none rfl)]
    have f21 := hj.val 10 21 rfl rfl (by simp) rfl (hd ⟨10, .data⟩ (by simp) rfl)
    exact opBin hK rfl (ev f21) rfl (guardInt _ _ _ _ _ _ _ _ _) (binShl32 _ _ _ _ _ (by decide) (by decide)) (congrArg (Value.int IntKind.u32) (show IntKind.u32.wrap ((rd l ((n : Int) + 1)) * 256) = (rd l ((n : Int) + 1)) * 256 from wrap32_in _ (by omega) (by omega)))
  · intro L a w1 hd hj K hK
    rw [if_pos (wanted_none rfl)]
    have f15 := hj.val 4 15 rfl rfl (by simp) rfl (hd ⟨4, .data⟩ (by simp) rfl)
    have f22 := hj.val 11 22 rfl rfl (by simp) rfl (hd ⟨11, .data⟩ (by simp) rfl)
    exact opBin hK rfl (ev f15) (ev f22) (guardInt _ _ _ _ _ _ _ _ _) (binOr32 _ _ _ _) (congrArg (Value.int IntKind.u32) HV.out.1)
  · intro L a w1 hd hj K hK
    rw [if_pos (wanted_none rfl)]
    have f0 := hj.base 0 rfl rfl
    exact opMove hK rfl (ev f0) rfl
  · intro L a w1 hd hj K hK
    rw [if_pos (wanted_none rfl)]
    have f4 := hj.base 4 rfl rfl
    exact opMove hK rfl (ev f4) rfl
  · intro L a w1 hd hj K hK
    rw [if_pos (wanted_none rfl)]
    have f25 := hj.val 14 25 rfl rfl (by simp) rfl (hd ⟨14, .data⟩ (by simp) rfl)
    exact opBin hK rfl (ev f25) rfl (guardInt _ _ _ _ _ _ _ _ _) (binAdd _ _ _ _ (IntWalk.i64_in _ (by omega))) rfl
  · intro L a w1 hd hj K hK
    rw [if_pos (wanted_none rfl)]
    have f24 := hj.val 13 24 rfl rfl (by simp) rfl (hd ⟨13, .data⟩ (by simp) rfl)
    have f26 := hj.val 15 26 rfl rfl (by simp) rfl (hd ⟨15, .data⟩ (by simp) rfl)
    exact opIndex hK rfl (k := .i64) (i := (n : Int) + 2) (ev f24) (ev f26) Try.underlying22 u8size (by omega) (by omega) (congrArg (fun z => Value.pointer (some (ad.add (z * 1)))) (by omega))
  · intro L a w1 hd hj K hK
    rw [if_pos (wanted_none rfl)]
    have f27 := hj.val 16 27 rfl rfl (by simp) rfl (hd ⟨16, .data⟩ (by simp) rfl)
    exact opLoad hK rfl (ev f27) Try.underlying5 rfl (HC.out (n + 2) (by omega) _ ((Ext.refl _ _).drew.trans0 hj.ext)) rfl
  · intro L a w1 hd hj K hK
    rw [if_pos (wanted_none rfl)]
    have f28 := hj.val 17 28 rfl rfl (by simp) rfl (hd ⟨17, .data⟩ (by simp) rfl)
    exact opConvInt hK rfl (k' := .u32) (ev f28) (by kernel_rfl) (by kernel_rfl) (by kernel_rfl) (congrArg (Value.int IntKind.u32) (wrap32_in _ (by omega) (by omega)))
  · intro L a w1 hd hj K hK
    rw [if_pos (wanted_none rfl)]
    have f29 := hj.val 18 29 rfl rfl (by simp) rfl (hd ⟨18, .data⟩ (by simp) rfl)
    exact opBin hK rfl (ev f29) rfl (guardInt _ _ _ _ _ _ _ _ _) (binShl32 _ _ _ _ _ (by decide) (by decide)) (congrArg (Value.int IntKind.u32) (show IntKind.u32.wrap ((rd l ((n : Int) + 2)) * 65536) = (rd l ((n : Int) + 2)) * 65536 from wrap32_in _ (by omega) (by omega)))
  · intro L a w1 hd hj K hK
    rw [if_pos (wanted_none rfl)]
    have f23 := hj.val 12 23 rfl rfl (by simp) rfl (hd ⟨12, .data⟩ (by simp) rfl)
    have f30 := hj.val 19 30 rfl rfl (by simp) rfl (hd ⟨19, .data⟩ (by simp) rfl)
    exact opBin hK rfl (ev f23) (ev f30) (guardInt _ _ _ _ _ _ _ _ _) (binOr32 _ _ _ _) (congrArg (Value.int IntKind.u32) HV.out.2.1)
  · intro L a w1 hd hj K hK
    rw [if_pos (wanted_none rfl)]
    have f0 := hj.base 0 rfl rfl
    exact opMove hK rfl (ev f0) rfl
  · intro L a w1 hd hj K hK
    rw [if_pos (wanted_none rfl)]
    have f4 := hj.base 4 rfl rfl
    exact opMove hK rfl (ev f4) rfl
  · intro L a w1 hd hj K hK
    rw [if_pos (wanted_none rfl)]
    have f33 := hj.val 22 33 rfl rfl (by simp) rfl (hd ⟨22, .data⟩ (by simp) rfl)
    exact opBin hK rfl (ev f33) rfl (guardInt _ _ _ _ _ _ _ _ _) (binAdd _ _ _ _ (IntWalk.i64_in _ (by omega))) rfl
  · intro L a w1 hd hj K hK
    rw [if_pos (wanted_none rfl)]
    have f32 := hj.val 21 32 rfl rfl (by simp) rfl (hd ⟨21, .data⟩ (by simp) rfl)
    have f34 := hj.val 23 34 rfl rfl (by simp) rfl (hd ⟨23, .data⟩ (by simp) rfl)
    exact opIndex hK rfl (k := .i64) (i := (n : Int) + 3) (ev f32) (ev f34) Try.underlying22 u8size (by omega) (by omega) (congrArg (fun z => Value.pointer (some (ad.add (z * 1)))) (by omega))
  · intro L a w1 hd hj K hK
    rw [if_pos (wanted_none rfl)]
    have f35 := hj.val 24 35 rfl rfl (by simp) rfl (hd ⟨24, .data⟩ (by simp) rfl)
    exact opLoad hK rfl (ev f35) Try.underlying5 rfl (HC.out (n + 3) (by omega) _ ((Ext.refl _ _).drew.trans0 hj.ext)) rfl
  · intro L a w1 hd hj K hK
    rw [if_pos (wanted_none rfl)]
    have f36 := hj.val 25 36 rfl rfl (by simp) rfl (hd ⟨25, .data⟩ (by simp) rfl)
    exact opConvInt hK rfl (k' := .u32) (ev f36) (by kernel_rfl) (by kernel_rfl) (by kernel_rfl) (congrArg (Value.int IntKind.u32) (wrap32_in _ (by omega) (by omega)))
  · intro L a w1 hd hj K hK
    rw [if_pos (wanted_none rfl)]
    have f37 := hj.val 26 37 rfl rfl (by simp) rfl (hd ⟨26, .data⟩ (by simp) rfl)
    exact opBin hK rfl (ev f37) rfl (guardInt _ _ _ _ _ _ _ _ _) (binShl32 _ _ _ _ _ (by decide) (by decide)) (congrArg (Value.int IntKind.u32) (show IntKind.u32.wrap ((rd l ((n : Int) + 3)) * 16777216) = (rd l ((n : Int) + 3)) * 16777216 from wrap32_in _ (by omega) (by omega)))
  · intro L a w1 hd hj K hK
    rw [if_pos (wanted_none rfl)]
    have f31 := hj.val 20 31 rfl rfl (by simp) rfl (hd ⟨20, .data⟩ (by simp) rfl)
    have f38 := hj.val 27 38 rfl rfl (by simp) rfl (hd ⟨27, .data⟩ (by simp) rfl)
    exact opBin hK rfl (ev f31) (ev f38) (guardInt _ _ _ _ _ _ _ _ _) (binOr32 _ _ _ _) (congrArg (Value.int IntKind.u32) HV.out.2.2)
  · intro L a w1 hd hj K hK
    rw [if_pos (wanted_none rfl)]
    have f39 := hj.val 28 39 rfl rfl (by simp) rfl (hd ⟨28, .data⟩ (by simp) rfl)
    exact opAssign hK rfl (ev f39) rfl
  intro vs w9 hx hg
  have v29 : vs 29 = .int .u32 N2 := (hg 29 (by simp)).trans (congrArg (Value.int IntKind.u32) (by rw [HN2.out]; rfl))
  have X : Ext None_ w w9 := (Ext.refl None_ w).drew.trans0 hx
  have HOF9 := Lib.hid (HOF.out w9 X)
  have HT9 := Lib.hid (HT.out w9 X)
  have X := Lib.hid X
  clear hx hg
  simp only [putAll, v29, Nat.reduceAdd, Nat.zero_add]
  simp only [Act.put, List.setIfInBounds_toArray, List.set_cons_succ, List.set_cons_zero]
  go_wp2_with fail
  refine (HOF9.out _).mono ?_
  rintro e w0 ⟨rfl, rfl⟩
  cases ok with
  | true =>
    have hne' : (N1 != N2) = false := hne
    clear hne
    go_wp2_with (at_builtin; refine app8 rfl (.const (.slice none 0 0)) (.tmp 49) rfl (.slice none 0 0) [] (l.take n) A' c rfl (by rw [htl]; rfl) (OwnB.nil _ (fun _ => False)) (HT9.out.ext0 ((Ext.refl _ _).alloc _)) (by simp; omega) ?_; intro v1 w1 ho1 hx1; have HO1 := Lib.hid ho1; have HX1 := Lib.hid hx1; clear ho1 hx1)
    go_ret2
    have hs := X.out.size
    refine ⟨_, rfl, ?_, ?_⟩
    · refine OwnB.mono HO1.out (fun k _ hk => ?_)
      rcases hk with hk | hk
      · simp [Value.ownBlock] at hk
      · simp at hk; omega
    · exact (X.out.alloc _).trans HX1.out (fun k _ h => by simp [Of, Value.ownBlock] at h)
  | false =>
    have hne' : (N1 != N2) = true := hne
    clear hne
    go_wp2_with fail
    go_ret2
    exact ⟨_, rfl, OwnB.nil _ _, X.out.alloc _⟩
set_option maxRecDepth 100000 in
set_option maxHeartbeats 4000000 in
theorem open_short (A : Option Addr) (c : Nat) (l : List Int) (w : World) (hn : l.length < 4) :
    Calls Try.prog 37 #[.slice A l.length c] w fun e w' => e = .returned (.tuple #[.slice none 0 0, .bool false]) ∧ w = w' := by
  have hsub : wrap64 ((l.length : Int) - 4) = (l.length : Int) - 4 := pw_wrap64 _ (by omega) (by omega)
  have hlt : decide ((l.length : Int) - 4 < 0) = true := decide_eq_true (by omega)
  go_enter Try.func37, Try.ntmps37
  go_wp2_with fail
  go_ret2
  exact ⟨rfl, rfl⟩
theorem open_any (A : Option Addr) (c : Nat) (l : List Int) (w : World) (hrow : Row w A (B8 l)) (hb : Byt l) (hc : l.length ≤ c) (hlen : l.length ≤ 140737488355328) :
    Calls Try.prog 37 #[.slice A l.length c] w fun e w' => ∃ v', e = .returned (.tuple #[v', .bool (openF l).2]) ∧ OwnB w' (fun k => w.heap.size ≤ k) v' (openF l).1 ∧ Ext None_ w w' := by
  by_cases hn : l.length < 4
  · have e : openF l = ([], false) := by unfold openF; rw [if_pos hn]
    rw [e]
    exact (open_short A c l w hn).mono fun e w' ⟨h1, h2⟩ => ⟨_, h1, OwnB.nil _ _, by subst h2; exact Ext.refl _ _⟩
  · obtain ⟨n, hl⟩ : ∃ n, l.length = n + 4 := ⟨l.length - 4, by omega⟩
    obtain ⟨ad, rfl⟩ := hrow.some (by rw [B8_length]; omega)
    have e : openF l = (if decide (nt (sumOf 0#32 (l.take n)) = v4at l n) = true then l.take n else [], decide (nt (sumOf 0#32 (l.take n)) = v4at l n)) := by
      unfold openF
      rw [if_neg hn, show l.length - 4 = n by omega]
      by_cases h : nt (sumOf 0#32 (l.take n)) = v4at l n <;> simp [h]
    rw [e]
    exact open_long ad c l n w hl hrow hb hc hlen _ rfl
end Go.Proofs.Ytghkgfeamijefaa
