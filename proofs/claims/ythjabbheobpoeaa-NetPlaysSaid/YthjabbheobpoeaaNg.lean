/- Package net, walked: Drop, Deliver. -/
import Derived.Test.YthjabbheobpoeaaNf
set_option linter.unusedVariables false
set_option linter.unusedSimpArgs false
namespace Go.Proofs.Ythjabbheobpoeaa
open Go.RowKit B
theorem Left.mono {w w' : World} {M C : Nat → Prop} {g : Nat} {N : NS} {m m' : Nat} (h : Left w w' M C g N m) (hm : m ≤ m') : Left w w' M C g N m' := by
  obtain ⟨M', C', ⟨⟨bw, bc, V, k1, k2, k3, rest⟩, r2, r3, r4, r5, r6⟩, h2⟩ := h
  exact ⟨M', C', ⟨⟨bw, bc, V, k1, k2.mono hm, k3.mono hm, rest⟩, r2, r3, r4, r5, r6⟩, h2⟩
theorem Left.pre {w w1 w2 : World} {M C : Nat → Prop} {g : Nat} {N : NS} {m : Nat} (h : Left w1 w2 M C g N m) (hx : Ext None_ w w1) : Left w w2 M C g N m := by
  obtain ⟨M', C', h1, h2, h3, h4⟩ := h
  have hs := hx.size
  exact ⟨M', C', h1, (hx.mono (fun _ _ e => e.elim)).trans h2 (fun k _ e => e), fun k hk => (h3 k hk).imp id (fun h => by omega), fun k hk => (h4 k hk).imp id (fun h => by omega)⟩
/-- .. and a block of the call's own is written behind it. -/
theorem Left.far {w0 w w1 w2 : World} {M C : Nat → Prop} {g b : Nat} {N : NS} {m : Nat} (h0 : Ext None_ w0 w) (h : Left w w1 M C g N m) (hx : Ext (fun r => r = b) w1 w2) (hb0 : w0.heap.size ≤ b) (hb : b < w.heap.size) (hM : ∀ k, M k → k < w0.heap.size) (hC : ∀ k, C k → k < w0.heap.size) : Left w0 w2 M C g N m := by
  obtain ⟨M', C', h1, h2, h3, h4⟩ := h
  have hs := h0.size
  refine ⟨M', C', h1.ext hx (fun k hk e => ?_) (fun k hk e => ?_), ((h0.mono (fun _ _ e => e.elim)).trans h2 (fun k _ e => e)).trans hx (fun k hk e => ?_), fun k hk => (h3 k hk).imp id (fun h => by omega), fun k hk => (h4 k hk).imp id (fun h => by omega)⟩
  · have e : k = b := e
    rcases h3 k hk with h | h
    · have := hM k h; omega
    · omega
  · have e : k = b := e
    rcases h4 k hk with h | h
    · have := hC k h; omega
    · omega
  · have e : k = b := e
    omega
theorem Left.refl {w : World} {M C : Nat → Prop} {g : Nat} {N : NS} {m : Nat} (h : NetAt w M C g N m) : Left w w M C g N m := Left.same h (Ext.refl _ _)
set_option maxRecDepth 100000 in
set_option maxHeartbeats 8000000 in
theorem Drop_any (g : Nat) (N : NS) (M C : Nat → Prop) (m : Nat) (hm : m + 1 < maxLen) (a b k : Int) (ha : I64 a) (hb : I64 b) (hk : I64 k) (w : World) (h : NetAt w M C g N m) : Calls Try.prog 16 #[.pointer (some ⟨g, 0, none⟩), .int .i64 a, .int .i64 b, .int .i64 k] w fun e w' => e = .returned (.bool (!decide (atN N a b k < 0))) ∧ Left w w' M C g (dropN N a b k) (m + 1) := by
  have HAT := Lib.hid (at_any g N M C m a b k ha hb hk _ h)
  by_cases hat : atN N a b k < 0
  · have HD : Hid (dropN N a b k = N) := Lib.hid (by unfold dropN; rw [if_pos hat])
    have HR : Hid ((!decide (atN N a b k < 0)) = false) := Lib.hid (by simp [hat])
    have HL := Lib.hid ((Left.refl h).mono (show m ≤ m + 1 by omega))
    obtain ⟨z, hz⟩ : ∃ z, z = atN N a b k := ⟨_, rfl⟩
    rw [← hz] at HAT hat HR ⊢
    clear h hz
    go_enter Try.func16, Try.ntmps16
    go_wp2_with (go_at_call 24; refine HAT.out.mono ?_; rintro e w1 ⟨rfl, rfl⟩; clear HAT)
    go_ret
    exact ⟨by rw [HR.out]; rfl, by rw [HD.out]; exact HL.out⟩
  · obtain ⟨i, hi, hil⟩ := atN_lt N a b k hat
    have HD : Hid (dropN N a b k = takeN N a b i) := Lib.hid (by unfold dropN; rw [if_neg hat, hi, Int.toNat_natCast])
    have HR : Hid ((!decide (atN N a b k < 0)) = true) := Lib.hid (by simp [hat])
    have HT := Lib.hid (take_any g N M C m hm a b ha hb i hil w h)
    rw [hi] at HAT
    clear h hat hi hil
    go_enter Try.func16, Try.ntmps16
    go_wp2_with (first
      | (go_at_call 24; refine HAT.out.mono ?_; rintro e w1 ⟨rfl, rfl⟩; clear HAT)
      | (go_at_call 25; refine HT.out.mono ?_; rintro e w1 ⟨rfl, h1⟩; have HL := Lib.hid h1; clear h1 HT))
    go_ret
    exact ⟨by rw [HR.out]; rfl, by rw [HD.out]; exact HL.out⟩
set_option maxRecDepth 100000 in
set_option maxHeartbeats 8000000 in
theorem Deliver_any (g : Nat) (N : NS) (M C : Nat → Prop) (m : Nat) (hm : m + 1 < maxLen) (a b k : Int) (ha : I64 a) (hb : I64 b) (hk : I64 k) (w : World) (h : NetAt w M C g N m) : Calls Try.prog 11 #[.pointer (some ⟨g, 0, none⟩), .int .i64 a, .int .i64 b, .int .i64 k] w fun e w' => TwP (twiceN N a b k).1 (twiceN N a b k).2 w e w' ∧ Left w w' M C g (dropN N a b k) (m + 1) := by
  have HTW := Lib.hid (Twice_any g N M C m a b k ha hb hk _ (h.ext0 (x0 w (.cells (msgC msg0 none 0) 28))))
  have HZ := Lib.hid (Blk.new w (msgC msg0 none 0) 28)
  have HH := Lib.hid h
  have hmlt := h.mlt
  have HML := Lib.hid hmlt
  clear hmlt
  obtain ⟨⟨q, ok⟩, htw⟩ : ∃ x, x = twiceN N a b k := ⟨_, rfl⟩
  rw [← htw] at HTW ⊢
  simp only at HTW ⊢
  by_cases hat : atN N a b k < 0
  · have HD : Hid (dropN N a b k = N) := Lib.hid (by unfold dropN; rw [if_pos hat])
    have hok : ok = false := by unfold twiceN at htw; rw [if_pos hat] at htw; exact congrArg (·.2) htw
    subst hok
    clear h hat htw
    go_enter Try.func11, Try.ntmps11
    go_wp2_with (first
      | (go_at_call 10; refine HTW.out.mono ?_; rintro e w1 ⟨⟨A, c, rfl, ho⟩, hx⟩; have HO := Lib.hid ho; have HX := Lib.hid ((x0 w _).trans0 hx); have HZ1 := Lib.hid (HZ.out.ext hx (fun a => a)); have HW1 := Lib.hid (Nat.lt_of_lt_of_le (Nat.lt_succ_self w.heap.size) (by have := hx.size; rwa [size_alloc] at this)); clear ho hx HZ HTW)
      | (refine wpList_store_blk rfl 28 (.tmp 10) (.tmp 18) rfl w1.heap.size (msgC q A c) rfl rfl 28 (msgC msg0 none 0) (Blk.new w1 _ _) msgSize rfl rfl ?_; intro w2 hb2 hx2; have HB2 := Lib.hid hb2; have HX2 := Lib.hid ((x0 w1 _).mono (fun _ _ e => e.elim) |>.trans hx2 (fun _ _ e => e)); clear hb2 hx2)
      | (refine wpList_load_row rfl 28 (.tmp 10) rfl w1.heap.size rfl 28 (msgC q A c) (0, 0) _ HB2.out Try.underlying28 rfl msgSize ?_)
      | (refine wpList_store_blk rfl 28 (.tmp 8) (.tmp 30) rfl w.heap.size (msgC q A c) rfl rfl 28 (msgC msg0 none 0) (HZ1.out.ext HX2.out (fun e => by have h1 := HW1.out; omega)) msgSize rfl rfl ?_; intro w3 hb3 hx3; have HB3 := Lib.hid hb3; have HX3 := Lib.hid hx3; clear hb3 hx3))
    refine bodyPost_ret (results2_blk rfl _ _ w.heap.size 28 (msgC q A c) _ rfl rfl HB3.out Try.underlying28 rfl msgSize) rfl ?_
    have hw1 := HW1.out
    have x2 : Ext None_ w w2 := HX.out.trans HX2.out (fun r hr e => by have e : r = w1.heap.size := e; omega)
    have x3 : Ext None_ w w3 := x2.trans HX3.out (fun r hr e => by have e : r = w.heap.size := e; omega)
    refine ⟨⟨A, c, rfl, ((HO.out.ext HX2.out (fun r hr e => ?_)).ext HX3.out (fun r hr e => ?_)).mono (fun r _ hr => ?_)⟩, ?_⟩
    · have h1 := HO.out.lt r hr
      have e : r = w1.heap.size := e
      omega
    · have h1 := HO.out.blk r hr
      rw [size_alloc] at h1
      have e : r = w.heap.size := e
      omega
    · rw [size_alloc] at hr
      omega
    · rw [HD.out]
      exact (Left.same (HH.out.ext0 x3) (x3.mono (fun _ _ e => e.elim))).mono (by omega)
  · obtain ⟨i, hi, hil⟩ := atN_lt N a b k hat
    have HD : Hid (dropN N a b k = takeN N a b i) := Lib.hid (by unfold dropN; rw [if_neg hat, hi, Int.toNat_natCast])
    have hok : ok = true := by unfold twiceN at htw; rw [if_neg hat] at htw; exact congrArg (·.2) htw
    subst hok
    have HAT := Lib.hid (fun (W : World) (hx : Ext None_ w W) => hi ▸ at_any g N M C m a b k ha hb hk W (h.ext0 hx))
    have HTK := Lib.hid (fun (W : World) (hx : Ext None_ w W) => take_any g N M C m hm a b ha hb i hil W (h.ext0 hx))
    clear h hat htw hi hil
    go_enter Try.func11, Try.ntmps11
    go_wp2_with (first
      | (go_at_call 10; refine HTW.out.mono ?_; rintro e w1 ⟨⟨A, c, rfl, ho⟩, hx⟩; have HO := Lib.hid ho; have HX := Lib.hid ((x0 w _).trans0 hx); have HZ1 := Lib.hid (HZ.out.ext hx (fun a => a)); have HW1 := Lib.hid (Nat.lt_of_lt_of_le (Nat.lt_succ_self w.heap.size) (by have := hx.size; rwa [size_alloc] at this)); clear ho hx HZ HTW)
      | (refine wpList_store_blk rfl 28 (.tmp 10) (.tmp 18) rfl w1.heap.size (msgC q A c) rfl rfl 28 (msgC msg0 none 0) (Blk.new w1 _ _) msgSize rfl rfl ?_; intro w2 hb2 hx2; have HB2 := Lib.hid hb2; have HX2 := Lib.hid ((x0 w1 _).mono (fun _ _ e => e.elim) |>.trans hx2 (fun _ _ e => e)); have XW2 : Hid (Ext None_ w w2) := Lib.hid (HX.out.trans HX2.out (fun r hr e => by have e : r = w1.heap.size := e; have h1 := HW1.out; omega)); clear hb2 hx2)
      | (go_at_call 24; refine (HAT.out _ XW2.out).mono ?_; rintro e w2' ⟨rfl, rfl⟩; clear HAT)
      | (go_at_call 25; refine (HTK.out _ XW2.out).mono ?_; rintro e w4 ⟨rfl, h4⟩; have HL := Lib.hid h4; have HX4 : Hid (Ext M w2 w4) := Lib.hid (by obtain ⟨_, _, _, h5, _⟩ := h4; exact h5); have HB4 := Lib.hid (HB2.out.ext HX4.out (fun e => by have h1 := HML.out _ e; have h2 := HW1.out; omega)); have HZ4 := Lib.hid ((HZ1.out.ext HX2.out (fun e => by have h1 := HW1.out; omega)).ext HX4.out (fun e => by have h1 := HML.out _ e; omega)); clear h4 HTK HB2 HZ1)
      | (refine wpList_load_row rfl 28 (.tmp 10) rfl w1.heap.size rfl 28 (msgC q A c) (0, 0) _ HB4.out Try.underlying28 rfl msgSize ?_)
      | (refine wpList_store_blk rfl 28 (.tmp 8) (.tmp 30) rfl w.heap.size (msgC q A c) rfl rfl 28 (msgC msg0 none 0) HZ4.out msgSize rfl rfl ?_; intro w3 hb3 hx3; have HB3 := Lib.hid hb3; have HX3 := Lib.hid hx3; clear hb3 hx3))
    refine bodyPost_ret (results2_blk rfl _ _ w.heap.size 28 (msgC q A c) _ rfl rfl HB3.out Try.underlying28 rfl msgSize) rfl ?_
    have hw1 := HW1.out
    refine ⟨⟨A, c, rfl, (((HO.out.ext HX2.out (fun r hr e => ?_)).ext HX4.out (fun r hr e => ?_)).ext HX3.out (fun r hr e => ?_)).mono (fun r _ hr => ?_)⟩, ?_⟩
    · have h1 := HO.out.lt r hr
      have e : r = w1.heap.size := e
      omega
    · have h1 := HO.out.blk r hr
      rw [size_alloc] at h1
      have := HML.out r e
      omega
    · have h1 := HO.out.blk r hr
      rw [size_alloc] at h1
      have e : r = w.heap.size := e
      omega
    · rw [size_alloc] at hr
      omega
    · rw [HD.out]
      exact Left.far XW2.out HL.out HX3.out (Nat.le_refl _) (Nat.lt_of_lt_of_le hw1 (by have := HX2.out.size; omega)) HML.out HH.out.clt
end Go.Proofs.Ythjabbheobpoeaa
