/- The document's net, walked: Deliver. -/
import Derived.Test.YthjabbheobpoeaaRg
set_option linter.unusedVariables false
set_option linter.unusedSimpArgs false
namespace Go.Proofs.Ythjabbheobpoeaa
open Go.RowKit B
theorem RNAt.cN {w : World} {M C : Nat → Prop} {g : Nat} {N : NS} (h : RNAt w M C g N) : ∀ k, C k → ¬ M k := by
  obtain ⟨k1, k6, a1, a2, a3, a4, a5, a6⟩ := h
  exact fun k hc hm => a1 k hc hm
theorem RLeftN.far {w0 w w1 w2 : World} {M C : Nat → Prop} {g b : Nat} {N : NS} (h0 : Ext None_ w0 w) (h : RLeftN w w1 M C g N) (hx : Ext (fun r => r = b) w1 w2) (hb0 : w0.heap.size ≤ b) (hb : b < w.heap.size) (hM : ∀ k, M k → k < w0.heap.size) (hC : ∀ k, C k → k < w0.heap.size) : RLeftN w0 w2 M C g N := by
  obtain ⟨M', C', h1, h2, h3, h4⟩ := h
  have hs := h0.size
  refine ⟨M', C', h1.ext hx (fun k hk e => ?_) (fun k hk e => ?_), ((h0.mono (fun _ _ e => e.elim)).trans h2 (fun k _ e => e)).trans hx (fun k hk e => ?_), fun k hk => (h3 k hk).imp id (fun h => by omega), fun k hk => (h4 k hk).imp id (fun h => by omega)⟩
  · have e : k = b := e
    rcases h3 k hk with h | h
    · have := hM k h; omega
    · omega
  · have e : k = b := e
    rcases h4 k hk with h | h
    · have := hC k h; omega
    · omega
  · have e : k = b := e
    omega
set_option maxRecDepth 100000 in
set_option maxHeartbeats 8000000 in
theorem rdeliver_any (g : Nat) (N : NS) (M C : Nat → Prop) (a b k : Int) (hk : I64 k) (w : World) (h : RNAt w M C g N) : Calls Try.prog 29 #[.pointer (some ⟨g, 0, none⟩), .int .i64 a, .int .i64 b, .int .i64 k] w fun e w' => RwP C (twiceN N a b k).1 (twiceN N a b k).2 e w' ∧ RLeftN w w' M C g (dropN N a b k) := by
  have HTW := Lib.hid (rtwice_any g N M C a b k hk _ (h.ext0 (x0 w (.cells (msgC msg0 none 0) 28))))
  have HZ := Lib.hid (Blk.new w (msgC msg0 none 0) 28)
  have HDR := Lib.hid (fun (W : World) (hx : Ext None_ w W) => rdrop_any g N M C a b k hk W (h.ext0 hx))
  have HML := Lib.hid h.mlt
  have HCL := Lib.hid h.clt
  have HCN := Lib.hid h.cN
  obtain ⟨⟨q, ok⟩, htw⟩ : ∃ x, x = twiceN N a b k := ⟨_, rfl⟩
  rw [← htw] at HTW ⊢
  simp only at HTW ⊢
  clear h htw
  go_enter Try.func29, Try.ntmps29
  go_wp2_with (first
    | (go_at_call 30; refine HTW.out.mono ?_; rintro e w1 ⟨⟨A, c, rfl, ho, hln, hcc⟩, hx⟩; have HO := Lib.hid ho; have HLN := Lib.hid hln; have HCC := Lib.hid hcc; have HX := Lib.hid ((x0 w _).trans0 hx); have HZ1 := Lib.hid (HZ.out.ext hx (fun a => a)); have HW1 := Lib.hid (Nat.lt_of_lt_of_le (Nat.lt_succ_self w.heap.size) (by have := hx.size; rwa [size_alloc] at this)); clear ho hx HZ HTW hln hcc)
    | (refine wpList_store_blk rfl 28 (.tmp 10) (.tmp 18) rfl w1.heap.size (msgC q A c) rfl rfl 28 (msgC msg0 none 0) (Blk.new w1 _ _) msgSize rfl rfl ?_; intro w2 hb2 hx2; have HB2 := Lib.hid hb2; have HX2 := Lib.hid ((x0 w1 _).mono (fun _ _ e => e.elim) |>.trans hx2 (fun _ _ e => e)); have XW2 : Hid (Ext None_ w w2) := Lib.hid (HX.out.trans HX2.out (fun r hr e => by have e : r = w1.heap.size := e; have h1 := HW1.out; omega)); clear hb2 hx2)
    | (go_at_call 31; refine (HDR.out _ XW2.out).mono ?_; rintro e w4 ⟨rfl, h4⟩; have HL := Lib.hid h4; have HX4 : Hid (Ext M w2 w4) := Lib.hid (by obtain ⟨_, _, _, h5, _⟩ := h4; exact h5); have HB4 := Lib.hid (HB2.out.ext HX4.out (fun e => by have h1 := HML.out _ e; have h2 := HW1.out; omega)); have HZ4 := Lib.hid ((HZ1.out.ext HX2.out (fun e => by have h1 := HW1.out; omega)).ext HX4.out (fun e => by have h1 := HML.out _ e; omega)); clear h4 HDR HB2 HZ1)
    | (refine wpList_load_row rfl 28 (.tmp 10) rfl w1.heap.size rfl 28 (msgC q A c) (0, 0) _ HB4.out Try.underlying28 rfl msgSize ?_)
    | (refine wpList_store_blk rfl 28 (.tmp 8) (.tmp 25) rfl w.heap.size (msgC q A c) rfl rfl 28 (msgC msg0 none 0) HZ4.out msgSize rfl rfl ?_; intro w3 hb3 hx3; have HB3 := Lib.hid hb3; have HX3 := Lib.hid hx3; clear hb3 hx3))
  refine bodyPost_ret (results2_blk rfl _ _ w.heap.size 28 (msgC q A c) _ rfl rfl HB3.out Try.underlying28 rfl msgSize) rfl ?_
  have hw1 := HW1.out
  refine ⟨⟨A, c, rfl, rowE (rowE (rowE HO.out HX2.out (fun ad e hl => ?_)) HX4.out (fun ad e hl => HCN.out _ (HCC.out ad e hl))) HX3.out (fun ad e hl => ?_), HLN.out, HCC.out⟩, ?_⟩
  · have h1 := HCL.out _ (HCC.out ad e hl)
    show ¬ ad.block = w1.heap.size
    omega
  · have h1 := HCL.out _ (HCC.out ad e hl)
    show ¬ ad.block = w.heap.size
    omega
  · exact RLeftN.far XW2.out HL.out HX3.out (Nat.le_refl _) (Nat.lt_of_lt_of_le hw1 (by have := HX2.out.size; omega)) HML.out HCL.out
end Go.Proofs.Ythjabbheobpoeaa
