/- Packages sum and drayref2, walked: Seal. -/
import Derived.Test.YtghkgfeamijefaaSum2
import Derived.Test.YtghkgfeamijefaaFrameP
set_option linter.unusedVariables false
set_option linter.unusedSimpArgs false
namespace Go.Proofs.Ytghkgfeamijefaa
open Go.RowKit B
theorem parts_one {w : World} {g : Nat} {A : Option Addr} {c : Nat} {l : List Int} (h : w.cell? ⟨g, 0, none⟩ = some (.slice A l.length c)) (hr : Row w A (B8 l)) (hb : Byt l) (hl : l.length ≤ 140737488355328) : Parts w (some ⟨g, 0, none⟩) [l] := by
  intro i x hi
  match i, hi with
  | 0, hi =>
    cases hi
    exact ⟨_, A, c, rfl, by rw [add_plain]; exact h, hr, hb, hl⟩
theorem parts_two {w : World} {g : Nat} {A A2 : Option Addr} {c c2 : Nat} {l m : List Int} (h : w.cell? ⟨g, 0, none⟩ = some (.slice A l.length c)) (h2 : w.cell? ⟨g, 1, none⟩ = some (.slice A2 m.length c2)) (hr : Row w A (B8 l)) (hr2 : Row w A2 (B8 m)) (hb : Byt l) (hb2 : Byt m) (hl : l.length ≤ 140737488355328) (hm : m.length ≤ 140737488355328) : Parts w (some ⟨g, 0, none⟩) [l, m] := by
  intro i x hi
  match i, hi with
  | 0, hi =>
    cases hi
    exact ⟨_, A, c, rfl, by rw [add_plain]; exact h, hr, hb, hl⟩
  | 1, hi =>
    cases hi
    exact ⟨_, A2, c2, rfl, by rw [add_plain]; exact h2, hr2, hb2, hm⟩
theorem of_one (A : Option Addr) (c : Nat) (l : List Int) (w : World) (t : TypeId) (hr : Row w A (B8 l)) (hb : Byt l) (hl : l.length ≤ 140737488355328) (cap : Nat) :
    Calls Try.prog 70 #[.slice (some ⟨w.heap.size, 0, none⟩) 1 cap] (w.alloc (.cells #[.slice A l.length c] t)) fun e w' => e = .returned (.int .u32 (nt (sumOf 0#32 l))) ∧ (w.alloc (.cells #[.slice A l.length c] t)) = w' := by
  have := of_any (some ⟨w.heap.size, 0, none⟩) cap [l] (w.alloc (.cells #[.slice A l.length c] t)) (parts_one ((Blk.new w _ _).cell 0) (hr.ext0 ((Ext.refl _ _).alloc _)) hb hl) (by simp)
  simpa using this
theorem mk0 (n : Nat) (hn : n ≤ 140737488355328) : (∀ W : World, (Instr.makeSlice 22 (.int .i64 0) (.int .i64 (n : Int))).run Try.prog W = .ok (.slice (some ⟨W.heap.size, 0, none⟩) 0 n) (W.alloc (.cells (madeCells (Value.int .u8 0).cells n) 5))) ∧ ∀ W : World, OwnB (W.alloc (.cells (madeCells #[Value.int .u8 0] n) 5)) (fun k => k = W.heap.size) (.slice (some ⟨W.heap.size, 0, none⟩) 0 n) [] := by
  obtain ⟨i0, hi, hz0, hz1, hz2⟩ := info_parts infoU8
  refine ⟨fun W => ?_, fun W => Own.made W _ _ (by simp only [maxLen]; omega) (by simp [size_madeCells])⟩
  have hr := run_make (P := Try.prog) W 22 5 i0 (.int .u8 0) Try.underlying22 hi hz0 .i64 .i64 0 (n : Int) (by omega) (by omega) (by rw [hz2]; omega) (by omega)
  rw [hz1, show ((n : Int)).toNat = n by omega, Nat.mul_one] at hr
  exact hr
set_option maxRecDepth 100000 in
set_option maxHeartbeats 4000000 in
theorem seal_any (A : Option Addr) (c : Nat) (l : List Int) (w : World) (hrow : Row w A (B8 l)) (hb : Byt l) (hlen : l.length + 4 ≤ 140737488355328) :
    Calls Try.prog 36 #[.slice A l.length c] w fun e w' => ∃ v', e = .returned v' ∧ OwnB w' (fun k => w.heap.size ≤ k) v' (l ++ le4 (sumOf 0#32 l)) ∧ Ext None_ w w' := by
  have HR := Lib.hid hrow
  have HO := Lib.hid (fun t => of_one A c l w t hrow hb (by omega) 1)
  obtain ⟨hmk, hm⟩ := mk0 (l.length + 4) (by omega)
  have HM1 : ∀ o, Hid (OwnB ((w.alloc o).alloc (.cells (madeCells #[Value.int .u8 0] (l.length + 4)) 5)) (fun k => k = w.heap.size + 1) (.slice (some ⟨w.heap.size + 1, 0, none⟩) 0 (l.length + 4)) []) := fun o => Lib.hid (by have := hm (w.alloc o); simpa using this)
  rw [Int.natCast_add, show ((4 : Nat) : Int) = 4 from rfl] at hmk
  clear hrow hb hm
  obtain ⟨S, hS⟩ : ∃ S, S = sumOf 0#32 l := ⟨_, rfl⟩
  rw [← hS] at HO ⊢
  have hbd := nt_bounds S
  obtain ⟨hb0, hb1⟩ := hbd
  obtain ⟨N, hN⟩ : ∃ N, N = nt S := ⟨_, rfl⟩
  have HF : Hid (le4 S = [N % 256, N / 256 % 256, N / 65536 % 256, N / 16777216]) := Lib.hid (by rw [hN]; rfl)
  rw [← hN] at HO hb0 hb1
  clear hS hN
  go_enter Try.func36, Try.ntmps36
  go_wp2_with fail
  refine (HO.out _).mono ?_
  rintro e w0 ⟨rfl, rfl⟩
  go_wp2_with (first
    | (at_builtin; refine app8 rfl (.tmp 12) (.tmp 13) rfl (.slice (some ⟨w.heap.size + 1, 0, none⟩) 0 (l.length + 4)) [] l A c rfl rfl (HM1 _).out (HR.out.ext0 (((Ext.refl _ _).alloc _).alloc _)) (by simp; omega) ?_; intro v1 w1 ho1 hx1; have HO1 := Lib.hid ho1; have HX1 := Lib.hid hx1; clear ho1 hx1 hmk)
    | (at_builtin; refine app8 rfl (.tmp 15) (.tmp 27) rfl v1 l [N % 256, N / 256 % 256, N / 65536 % 256, N / 16777216] _ _ rfl rfl (HO1.out.alloc _) (Blk.new _ _ _).row (by simp; omega) ?_; intro v2 w2 ho2 hx2; have HO2 := Lib.hid ho2; have HX2 := Lib.hid hx2; clear ho2 hx2))
  go_ret
  have hs1 : w.heap.size + 2 ≤ w1.heap.size := by have := HX1.out.size; simp at this; omega
  have hs2 : w1.heap.size + 1 ≤ w2.heap.size := by have := HX2.out.size; simp at this; omega
  have hv1 : ∀ k, v1.ownBlock = some k → w.heap.size ≤ k := fun k hk => by
    rcases HO1.out.blk k hk with h | h
    · simp [Value.ownBlock] at h; omega
    · simp at h; omega
  rw [HF.out]
  refine ⟨_, rfl, ?_, ?_⟩
  · refine OwnB.mono HO2.out (fun k _ hk => ?_)
    rcases hk with hk | hk
    · exact hv1 k hk
    · simp at hk; omega
  · refine (((((Ext.refl None_ w).alloc _).alloc _).trans HX1.out (fun k hk h => ?_)).alloc _).trans HX2.out (fun k hk h => ?_)
    · simp [Of, Value.ownBlock] at h; omega
    · have := hv1 k h; omega
end Go.Proofs.Ytghkgfeamijefaa
