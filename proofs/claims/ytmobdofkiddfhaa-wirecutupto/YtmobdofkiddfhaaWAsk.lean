/- draylaw3.ask, walked: an item asked of both readers. Written by gen_ask.py. -/
import Derived.Test.YtmobdofkiddfhaaWReads
import Derived.Test.YtmobdofkiddfhaaRef3d
import Derived.Test.YtmobdofkiddfhaaPure3
set_option linter.unusedVariables false
set_option linter.unusedSimpArgs false
namespace Go.Proofs.Ytmobdofkiddfhaa
open Go.RowKit B
theorem notGG {g g' n : Nat} (h1 : g < n) (h2 : g' < n) : ¬ GG g g' n := fun a => a.elim (fun e => by omega) (fun e => by omega)

set_option maxRecDepth 100000 in
set_option maxHeartbeats 8000000 in
theorem ask1_any (g b g' b' : Nat) (l : List Int) (s : RS) (x : Item) (A : Option Addr) (c : Nat) (w : World) (h : Both w g b g' b' l s) (hl8 : l.length * 8 + 8 ≤ 140737488355328) (hk : (x.kind == 1) = true) :
    Calls Try.prog 33 #[.pointer (some ⟨g, 0, none⟩), .pointer (some ⟨g', 0, none⟩), x.val A c] w fun e w' => e = .returned (.bool true) ∧ ∃ s', Both w' g b g' b' l s' ∧ Ext (GG g g') w w' := by
  obtain ⟨h1, h2, hn⟩ := h
  have NN := Lib.hid hn
  have HL := Lib.hid (And.intro h1.lt h2.lt)
  have HB := Lib.hid h1.bounds
  have H8 := Lib.hid hl8
  have R0 : ∀ W, Ext None_ w W → Hid (Rd W g b l s) := fun W hx => Lib.hid (h1.ext0 hx)
  have F0 : ∀ W, Ext None_ w W → Hid (Rf W g' b' l s) := fun W hx => Lib.hid (h2.ext0 hx)
  have CC : Hid ((w.alloc (.cells #[.int .i64 x.kind, .int .i64 x.n, .int .i64 x.most, .slice A x.l.length c, .string x.s, .bool x.f] 37)).cell? ⟨w.heap.size, 2, none⟩ = some (.int .i64 x.most)) := Lib.hid ((Blk.new w _ _).cell 2)
  clear h1 h2 hn hl8
  unfold Item.val
  have e1 := hk
  go_enter Try.func33, Try.ntmps33
  go_wp2_with (first
    | (go_at_call 62; (with_reducible refine (Num_any g b l s _ (R0 _ (by first | exact x0 _ _ | exact (x0 _ _).drew)).out).mono ?_); rintro e w1 ⟨rfl, r1, x1⟩; have R1 := Lib.hid r1; have F1 := Lib.hid ((F0 _ (by first | exact x0 _ _ | exact (x0 _ _).drew)).out.ext x1 NN.out.1.symm NN.out.2.1.symm); have X1 : Hid (Ext (GG g g') w w1) := Lib.hid (Ext.trans ((by first | exact x0 _ _ | exact (x0 _ _).drew : Ext None_ w _).mono (fun _ _ a => a.elim)) x1 (fun _ _ a => .inl a)); have xb : Ext (GG g g') (w.alloc (.cells #[.int .i64 x.kind, .int .i64 x.n, .int .i64 x.most, .slice A x.l.length c, .string x.s, .bool x.f] 37)) w1 := (by first | exact x1.mono (fun _ _ a => .inl a) | exact Ext.trans ((Ext.refl (GG g g') _).drew) x1 (fun _ _ a => .inl a)); have XB1 := Lib.hid xb; have hcc := xb.cell CC.out (notGG HL.out.1.1 HL.out.2.1); clear xb r1 x1)
    | (go_at_call 73; (with_reducible refine (rNum_any g' b' l s _ (by first | exact F1.out | exact F1.out.drew)).mono ?_); rintro e w2 ⟨rfl, f2, x2⟩; have F2 := Lib.hid f2; have R2 := Lib.hid (R1.out.ext x2 NN.out.1 NN.out.2.2.symm); have X2 : Hid (Ext (GG g g') w w2) := Lib.hid (X1.out.trans x2 (fun _ _ a => .inr a)); have xb : Ext (GG g g') (w.alloc (.cells #[.int .i64 x.kind, .int .i64 x.n, .int .i64 x.most, .slice A x.l.length c, .string x.s, .bool x.f] 37)) w2 := XB1.out.trans x2 (fun _ _ a => .inr a); have hcc := xb.cell CC.out (notGG HL.out.1.1 HL.out.2.1); clear xb f2 x2))
  go_ret
  exact ⟨by simp, Both.step R2.out F2.out NN.out X2.out⟩

set_option maxRecDepth 100000 in
set_option maxHeartbeats 8000000 in
theorem ask3_any (g b g' b' : Nat) (l : List Int) (s : RS) (x : Item) (A : Option Addr) (c : Nat) (w : World) (h : Both w g b g' b' l s) (hl8 : l.length * 8 + 8 ≤ 140737488355328) (hk : (x.kind == 1) = false ∧ (x.kind == 2) = false ∧ (x.kind == 3) = true) :
    Calls Try.prog 33 #[.pointer (some ⟨g, 0, none⟩), .pointer (some ⟨g', 0, none⟩), x.val A c] w fun e w' => e = .returned (.bool true) ∧ ∃ s', Both w' g b g' b' l s' ∧ Ext (GG g g') w w' := by
  obtain ⟨h1, h2, hn⟩ := h
  have NN := Lib.hid hn
  have HL := Lib.hid (And.intro h1.lt h2.lt)
  have HB := Lib.hid h1.bounds
  have H8 := Lib.hid hl8
  have R0 : ∀ W, Ext None_ w W → Hid (Rd W g b l s) := fun W hx => Lib.hid (h1.ext0 hx)
  have F0 : ∀ W, Ext None_ w W → Hid (Rf W g' b' l s) := fun W hx => Lib.hid (h2.ext0 hx)
  have CC : Hid ((w.alloc (.cells #[.int .i64 x.kind, .int .i64 x.n, .int .i64 x.most, .slice A x.l.length c, .string x.s, .bool x.f] 37)).cell? ⟨w.heap.size, 2, none⟩ = some (.int .i64 x.most)) := Lib.hid ((Blk.new w _ _).cell 2)
  clear h1 h2 hn hl8
  unfold Item.val
  obtain ⟨e1, e2, e3⟩ := hk
  go_enter Try.func33, Try.ntmps33
  go_wp2
  go_region_held3 (fun W => W.cell? ⟨w.heap.size, 2, none⟩ = some (.int .i64 x.most)) (first | exact CC.out | exact hcc | (simp [*]; done)) (first
    | (go_at_call 65; (with_reducible refine (Text_any g b l s x.most _ (R0 _ (by first | exact x0 _ _ | exact (x0 _ _).drew)).out).mono ?_); rintro e w1 ⟨rfl, r1, x1⟩; have R1 := Lib.hid r1; have F1 := Lib.hid ((F0 _ (by first | exact x0 _ _ | exact (x0 _ _).drew)).out.ext x1 NN.out.1.symm NN.out.2.1.symm); have X1 : Hid (Ext (GG g g') w w1) := Lib.hid (Ext.trans ((by first | exact x0 _ _ | exact (x0 _ _).drew : Ext None_ w _).mono (fun _ _ a => a.elim)) x1 (fun _ _ a => .inl a)); have xb : Ext (GG g g') (w.alloc (.cells #[.int .i64 x.kind, .int .i64 x.n, .int .i64 x.most, .slice A x.l.length c, .string x.s, .bool x.f] 37)) w1 := (by first | exact x1.mono (fun _ _ a => .inl a) | exact Ext.trans ((Ext.refl (GG g g') _).drew) x1 (fun _ _ a => .inl a)); have XB1 := Lib.hid xb; have hcc := xb.cell CC.out (notGG HL.out.1.1 HL.out.2.1); clear xb r1 x1)
    | (go_at_call 75; (with_reducible refine (rText_any g' b' l s x.most _ (by first | exact F1.out | exact F1.out.drew)).mono ?_); rintro e w2 ⟨rfl, f2, x2⟩; have F2 := Lib.hid f2; have R2 := Lib.hid (R1.out.ext x2 NN.out.1 NN.out.2.2.symm); have X2 : Hid (Ext (GG g g') w w2) := Lib.hid (X1.out.trans x2 (fun _ _ a => .inr a)); have xb : Ext (GG g g') (w.alloc (.cells #[.int .i64 x.kind, .int .i64 x.n, .int .i64 x.most, .slice A x.l.length c, .string x.s, .bool x.f] 37)) w2 := XB1.out.trans x2 (fun _ _ a => .inr a); have hcc := xb.cell CC.out (notGG HL.out.1.1 HL.out.2.1); clear xb f2 x2))
  go_wp2
  go_ret
  exact ⟨by simp, Both.step R2.out F2.out NN.out X2.out⟩

set_option maxRecDepth 100000 in
set_option maxHeartbeats 8000000 in
theorem ask4_any (g b g' b' : Nat) (l : List Int) (s : RS) (x : Item) (A : Option Addr) (c : Nat) (w : World) (h : Both w g b g' b' l s) (hl8 : l.length * 8 + 8 ≤ 140737488355328) (hk : (x.kind == 1) = false ∧ (x.kind == 2) = false ∧ (x.kind == 3) = false ∧ (x.kind == 4) = true) :
    Calls Try.prog 33 #[.pointer (some ⟨g, 0, none⟩), .pointer (some ⟨g', 0, none⟩), x.val A c] w fun e w' => e = .returned (.bool true) ∧ ∃ s', Both w' g b g' b' l s' ∧ Ext (GG g g') w w' := by
  obtain ⟨h1, h2, hn⟩ := h
  have NN := Lib.hid hn
  have HL := Lib.hid (And.intro h1.lt h2.lt)
  have HB := Lib.hid h1.bounds
  have H8 := Lib.hid hl8
  have R0 : ∀ W, Ext None_ w W → Hid (Rd W g b l s) := fun W hx => Lib.hid (h1.ext0 hx)
  have F0 : ∀ W, Ext None_ w W → Hid (Rf W g' b' l s) := fun W hx => Lib.hid (h2.ext0 hx)
  have CC : Hid ((w.alloc (.cells #[.int .i64 x.kind, .int .i64 x.n, .int .i64 x.most, .slice A x.l.length c, .string x.s, .bool x.f] 37)).cell? ⟨w.heap.size, 2, none⟩ = some (.int .i64 x.most)) := Lib.hid ((Blk.new w _ _).cell 2)
  clear h1 h2 hn hl8
  unfold Item.val
  obtain ⟨e1, e2, e3, e4⟩ := hk
  go_enter Try.func33, Try.ntmps33
  go_wp2_with (first
    | (go_at_call 63; (with_reducible refine (Flag_any g b l s _ (R0 _ (by first | exact x0 _ _ | exact (x0 _ _).drew)).out).mono ?_); rintro e w1 ⟨rfl, r1, x1⟩; have R1 := Lib.hid r1; have F1 := Lib.hid ((F0 _ (by first | exact x0 _ _ | exact (x0 _ _).drew)).out.ext x1 NN.out.1.symm NN.out.2.1.symm); have X1 : Hid (Ext (GG g g') w w1) := Lib.hid (Ext.trans ((by first | exact x0 _ _ | exact (x0 _ _).drew : Ext None_ w _).mono (fun _ _ a => a.elim)) x1 (fun _ _ a => .inl a)); have xb : Ext (GG g g') (w.alloc (.cells #[.int .i64 x.kind, .int .i64 x.n, .int .i64 x.most, .slice A x.l.length c, .string x.s, .bool x.f] 37)) w1 := (by first | exact x1.mono (fun _ _ a => .inl a) | exact Ext.trans ((Ext.refl (GG g g') _).drew) x1 (fun _ _ a => .inl a)); have XB1 := Lib.hid xb; have hcc := xb.cell CC.out (notGG HL.out.1.1 HL.out.2.1); clear xb r1 x1)
    | (go_at_call 76; (with_reducible refine (rFlag_any g' b' l s _ (by first | exact F1.out | exact F1.out.drew)).mono ?_); rintro e w2 ⟨rfl, f2, x2⟩; have F2 := Lib.hid f2; have R2 := Lib.hid (R1.out.ext x2 NN.out.1 NN.out.2.2.symm); have X2 : Hid (Ext (GG g g') w w2) := Lib.hid (X1.out.trans x2 (fun _ _ a => .inr a)); have xb : Ext (GG g g') (w.alloc (.cells #[.int .i64 x.kind, .int .i64 x.n, .int .i64 x.most, .slice A x.l.length c, .string x.s, .bool x.f] 37)) w2 := XB1.out.trans x2 (fun _ _ a => .inr a); have hcc := xb.cell CC.out (notGG HL.out.1.1 HL.out.2.1); clear xb f2 x2))
  go_ret
  exact ⟨by simp, Both.step R2.out F2.out NN.out X2.out⟩

set_option maxRecDepth 100000 in
set_option maxHeartbeats 8000000 in
theorem ask5_any (g b g' b' : Nat) (l : List Int) (s : RS) (x : Item) (A : Option Addr) (c : Nat) (w : World) (h : Both w g b g' b' l s) (hl8 : l.length * 8 + 8 ≤ 140737488355328) (hk : (x.kind == 1) = false ∧ (x.kind == 2) = false ∧ (x.kind == 3) = false ∧ (x.kind == 4) = false ∧ (x.kind == 5) = true) :
    Calls Try.prog 33 #[.pointer (some ⟨g, 0, none⟩), .pointer (some ⟨g', 0, none⟩), x.val A c] w fun e w' => e = .returned (.bool true) ∧ ∃ s', Both w' g b g' b' l s' ∧ Ext (GG g g') w w' := by
  obtain ⟨h1, h2, hn⟩ := h
  have NN := Lib.hid hn
  have HL := Lib.hid (And.intro h1.lt h2.lt)
  have HB := Lib.hid h1.bounds
  have H8 := Lib.hid hl8
  have R0 : ∀ W, Ext None_ w W → Hid (Rd W g b l s) := fun W hx => Lib.hid (h1.ext0 hx)
  have F0 : ∀ W, Ext None_ w W → Hid (Rf W g' b' l s) := fun W hx => Lib.hid (h2.ext0 hx)
  have CC : Hid ((w.alloc (.cells #[.int .i64 x.kind, .int .i64 x.n, .int .i64 x.most, .slice A x.l.length c, .string x.s, .bool x.f] 37)).cell? ⟨w.heap.size, 2, none⟩ = some (.int .i64 x.most)) := Lib.hid ((Blk.new w _ _).cell 2)
  clear h1 h2 hn hl8
  unfold Item.val
  obtain ⟨e1, e2, e3, e4, e5⟩ := hk
  go_enter Try.func33, Try.ntmps33
  go_wp2
  go_region_held3 (fun W => W.cell? ⟨w.heap.size, 2, none⟩ = some (.int .i64 x.most)) (first | exact CC.out | exact hcc | (simp [*]; done)) (first
    | (go_at_call 64; (with_reducible refine (Count_any g b l s x.most _ (R0 _ (by first | exact x0 _ _ | exact (x0 _ _).drew)).out).mono ?_); rintro e w1 ⟨rfl, r1, x1⟩; have R1 := Lib.hid r1; have F1 := Lib.hid ((F0 _ (by first | exact x0 _ _ | exact (x0 _ _).drew)).out.ext x1 NN.out.1.symm NN.out.2.1.symm); have X1 : Hid (Ext (GG g g') w w1) := Lib.hid (Ext.trans ((by first | exact x0 _ _ | exact (x0 _ _).drew : Ext None_ w _).mono (fun _ _ a => a.elim)) x1 (fun _ _ a => .inl a)); have xb : Ext (GG g g') (w.alloc (.cells #[.int .i64 x.kind, .int .i64 x.n, .int .i64 x.most, .slice A x.l.length c, .string x.s, .bool x.f] 37)) w1 := (by first | exact x1.mono (fun _ _ a => .inl a) | exact Ext.trans ((Ext.refl (GG g g') _).drew) x1 (fun _ _ a => .inl a)); have XB1 := Lib.hid xb; have hcc := xb.cell CC.out (notGG HL.out.1.1 HL.out.2.1); clear xb r1 x1)
    | (go_at_call 77; (with_reducible refine (rCount_any g' b' l s x.most _ (by first | exact F1.out | exact F1.out.drew)).mono ?_); rintro e w2 ⟨rfl, f2, x2⟩; have F2 := Lib.hid f2; have R2 := Lib.hid (R1.out.ext x2 NN.out.1 NN.out.2.2.symm); have X2 : Hid (Ext (GG g g') w w2) := Lib.hid (X1.out.trans x2 (fun _ _ a => .inr a)); have xb : Ext (GG g g') (w.alloc (.cells #[.int .i64 x.kind, .int .i64 x.n, .int .i64 x.most, .slice A x.l.length c, .string x.s, .bool x.f] 37)) w2 := XB1.out.trans x2 (fun _ _ a => .inr a); have hcc := xb.cell CC.out (notGG HL.out.1.1 HL.out.2.1); clear xb f2 x2))
  go_wp2
  go_ret
  exact ⟨by simp, Both.step R2.out F2.out NN.out X2.out⟩

set_option maxRecDepth 100000 in
set_option maxHeartbeats 8000000 in
theorem ask6_any (g b g' b' : Nat) (l : List Int) (s : RS) (x : Item) (A : Option Addr) (c : Nat) (w : World) (h : Both w g b g' b' l s) (hl8 : l.length * 8 + 8 ≤ 140737488355328) (hk : (x.kind == 1) = false ∧ (x.kind == 2) = false ∧ (x.kind == 3) = false ∧ (x.kind == 4) = false ∧ (x.kind == 5) = false) :
    Calls Try.prog 33 #[.pointer (some ⟨g, 0, none⟩), .pointer (some ⟨g', 0, none⟩), x.val A c] w fun e w' => e = .returned (.bool true) ∧ ∃ s', Both w' g b g' b' l s' ∧ Ext (GG g g') w w' := by
  obtain ⟨h1, h2, hn⟩ := h
  have NN := Lib.hid hn
  have HL := Lib.hid (And.intro h1.lt h2.lt)
  have HB := Lib.hid h1.bounds
  have H8 := Lib.hid hl8
  have R0 : ∀ W, Ext None_ w W → Hid (Rd W g b l s) := fun W hx => Lib.hid (h1.ext0 hx)
  have F0 : ∀ W, Ext None_ w W → Hid (Rf W g' b' l s) := fun W hx => Lib.hid (h2.ext0 hx)
  have CC : Hid ((w.alloc (.cells #[.int .i64 x.kind, .int .i64 x.n, .int .i64 x.most, .slice A x.l.length c, .string x.s, .bool x.f] 37)).cell? ⟨w.heap.size, 2, none⟩ = some (.int .i64 x.most)) := Lib.hid ((Blk.new w _ _).cell 2)
  clear h1 h2 hn hl8
  unfold Item.val
  obtain ⟨e1, e2, e3, e4, e5⟩ := hk
  go_enter Try.func33, Try.ntmps33
  go_wp2_with (first
    | (go_at_call 29; (with_reducible refine (End_any g b l s _ (R0 _ (by first | exact x0 _ _ | exact (x0 _ _).drew)).out).mono ?_); rintro e w1 ⟨rfl, r1, x1⟩; have R1 := Lib.hid r1; have F1 := Lib.hid ((F0 _ (by first | exact x0 _ _ | exact (x0 _ _).drew)).out.ext x1 NN.out.1.symm NN.out.2.1.symm); have X1 : Hid (Ext (GG g g') w w1) := Lib.hid (Ext.trans ((by first | exact x0 _ _ | exact (x0 _ _).drew : Ext None_ w _).mono (fun _ _ a => a.elim)) x1 (fun _ _ a => .inl a)); have xb : Ext (GG g g') (w.alloc (.cells #[.int .i64 x.kind, .int .i64 x.n, .int .i64 x.most, .slice A x.l.length c, .string x.s, .bool x.f] 37)) w1 := (by first | exact x1.mono (fun _ _ a => .inl a) | exact Ext.trans ((Ext.refl (GG g g') _).drew) x1 (fun _ _ a => .inl a)); have XB1 := Lib.hid xb; have hcc := xb.cell CC.out (notGG HL.out.1.1 HL.out.2.1); clear xb r1 x1)
    | (go_at_call 34; (with_reducible refine (rEnd_any g' b' l s _ (by first | exact F1.out | exact F1.out.drew)).mono ?_); rintro e w2 ⟨rfl, f2, x2⟩; have F2 := Lib.hid f2; have R2 := Lib.hid (R1.out.ext x2 NN.out.1 NN.out.2.2.symm); have X2 : Hid (Ext (GG g g') w w2) := Lib.hid (X1.out.trans x2 (fun _ _ a => .inr a)); have xb : Ext (GG g g') (w.alloc (.cells #[.int .i64 x.kind, .int .i64 x.n, .int .i64 x.most, .slice A x.l.length c, .string x.s, .bool x.f] 37)) w2 := XB1.out.trans x2 (fun _ _ a => .inr a); have hcc := xb.cell CC.out (notGG HL.out.1.1 HL.out.2.1); clear xb f2 x2))
  go_ret
  exact ⟨by simp, Both.step R2.out F2.out NN.out X2.out⟩

theorem numsF_len (n : Nat) : ∀ (l : List Int) (f : Nat) (s : RS), s.pos ≤ l.length → (numsF l f n s).2.fe = 0 → (numsF l f n s).1.length + s.pos ≤ (numsF l f n s).2.pos ∧ (numsF l f n s).2.pos ≤ l.length := by
  induction n with
  | zero => intro l f s hp _; simpa [numsF] using hp
  | succ n ih =>
    intro l f s hp hf
    by_cases h0 : s.fe = 0
    · rw [numsF_ok l f n s h0] at hf ⊢
      have h1 : (numR l f s).2.fe = 0 := by
        by_cases h1 : (numR l f s).2.fe = 0
        · exact h1
        · rw [numsF_bad l f n _ h1] at hf; exact hf
      have h2 := numR_adv l f s h1
      have h3 := ih l f _ h2.2.1 hf
      simp only [List.length_cons]
      omega
    · rw [numsF_bad l f (n + 1) s h0]
      simpa using hp
theorem NumsR_len (l : List Int) (most : Int) (s : RS) (hp : s.pos ≤ l.length) (hl : l.length ≤ 140737488355328) : (NumsR l most s).1.length ≤ 140737488355328 := by
  unfold NumsR
  split
  · next h =>
    unfold fin
    split
    · next h2 =>
      have := numsF_len (countR l s.pos most s).1.toNat l s.pos (countR l s.pos most s).2 (countR_pos l s.pos most s hp hp) h2
      omega
    · simp
  · simp
theorem Own.slice_row {w : World} {e size : Nat} {ok : Nat → Prop} {A : Option Addr} {n c : Nat} {vs : List Value} (h : Own w e size ok (.slice A n c) n vs) : Row w A vs := by
  obtain ⟨A', c', e, _, _, r⟩ := h.slice
  injection e with e1 e2 e3
  subst e1
  exact r
set_option maxRecDepth 100000 in
set_option maxHeartbeats 8000000 in
theorem ask2_any (g b g' b' : Nat) (l : List Int) (s : RS) (x : Item) (A : Option Addr) (c : Nat) (w : World) (h : Both w g b g' b' l s) (hl8 : l.length * 8 + 8 ≤ 140737488355328) (hk : (x.kind == 1) = false ∧ (x.kind == 2) = true) :
    Calls Try.prog 33 #[.pointer (some ⟨g, 0, none⟩), .pointer (some ⟨g', 0, none⟩), x.val A c] w fun e w' => e = .returned (.bool true) ∧ ∃ s', Both w' g b g' b' l s' ∧ Ext (GG g g') w w' := by
  obtain ⟨h1, h2, hn⟩ := h
  have NN := Lib.hid hn
  have HL := Lib.hid (And.intro h1.lt h2.lt)
  have HB := Lib.hid h1.bounds
  have H8 := Lib.hid hl8
  have R0 : ∀ W, Ext None_ w W → Hid (Rd W g b l s) := fun W hx => Lib.hid (h1.ext0 hx)
  have F0 : ∀ W, Ext None_ w W → Hid (Rf W g' b' l s) := fun W hx => Lib.hid (h2.ext0 hx)
  have CC : Hid ((w.alloc (.cells #[.int .i64 x.kind, .int .i64 x.n, .int .i64 x.most, .slice A x.l.length c, .string x.s, .bool x.f] 37)).cell? ⟨w.heap.size, 2, none⟩ = some (.int .i64 x.most)) := Lib.hid ((Blk.new w _ _).cell 2)
  clear h1 h2 hn hl8
  unfold Item.val
  obtain ⟨e1, e2⟩ := hk
  go_enter Try.func33, Try.ntmps33
  go_wp2
  go_region_held3 (fun W => W.cell? ⟨w.heap.size, 2, none⟩ = some (.int .i64 x.most)) (first | exact CC.out | exact hcc | (simp [*]; done)) (first
    | (go_at_call 28; (with_reducible refine (Nums_any g b l s x.most _ (R0 _ (by first | exact x0 _ _ | exact (x0 _ _).drew)).out H8.out).mono ?_); rintro e w1 ⟨v1, rfl, o1, r1, x1⟩; have R1 := Lib.hid r1; have F1 := Lib.hid ((F0 _ (by first | exact x0 _ _ | exact (x0 _ _).drew)).out.ext x1 NN.out.1.symm NN.out.2.1.symm); have X1 : Hid (Ext (GG g g') w w1) := Lib.hid (Ext.trans ((by first | exact x0 _ _ | exact (x0 _ _).drew : Ext None_ w _).mono (fun _ _ a => a.elim)) x1 (fun _ _ a => .inl a)); have xb : Ext (GG g g') (w.alloc (.cells #[.int .i64 x.kind, .int .i64 x.n, .int .i64 x.most, .slice A x.l.length c, .string x.s, .bool x.f] 37)) w1 := (by first | exact x1.mono (fun _ _ a => .inl a) | exact Ext.trans ((Ext.refl (GG g g') _).drew) x1 (fun _ _ a => .inl a)); have XB1 := Lib.hid xb; have hcc := xb.cell CC.out (notGG HL.out.1.1 HL.out.2.1); clear xb r1 x1; obtain ⟨A1, c1, rfl, _, _, q1⟩ := Own.slice o1; have Q1 := Lib.hid q1; have O1 := Lib.hid (OwnI.mono (ok1 := fun k => w.heap.size ≤ k) o1 (fun k _ hk => Nat.le_trans (Ext.size (by first | exact x0 _ _ | exact (x0 _ _).drew : Ext None_ w _)) hk)); clear o1 q1)
    | (go_at_call 74; (with_reducible refine (rNums_any g' b' l s x.most _ (by first | exact F1.out | exact F1.out.drew) H8.out).mono ?_); rintro e w2 ⟨v2, rfl, o2, f2, x2⟩; have F2 := Lib.hid f2; have R2 := Lib.hid (R1.out.ext x2 NN.out.1 NN.out.2.2.symm); have X2 : Hid (Ext (GG g g') w w2) := Lib.hid (X1.out.trans x2 (fun _ _ a => .inr a)); have xb : Ext (GG g g') (w.alloc (.cells #[.int .i64 x.kind, .int .i64 x.n, .int .i64 x.most, .slice A x.l.length c, .string x.s, .bool x.f] 37)) w2 := XB1.out.trans x2 (fun _ _ a => .inr a); have hcc := xb.cell CC.out (notGG HL.out.1.1 HL.out.2.1); obtain ⟨A2, c2, rfl, _, _, q2⟩ := Own.slice o2; have Q2 := Lib.hid q2; have P1 := Lib.hid (Own.slice_row (Own.ext O1.out x2 (fun k hk e => by have h5 : w.heap.size ≤ k := O1.out.blk k hk; have e' : k = g' := e; have h6 := HL.out; omega))); clear xb f2 x2 o2 q2)
    | (go_at_call 30; (with_reducible refine (sameI_any _ _ _ _ _ _ _ (P1.out) (Q2.out) (NumsR_len _ _ _ HB.out.1 HB.out.2.1) (NumsR_len _ _ _ HB.out.1 HB.out.2.1)).mono ?_); rintro e w3 ⟨rfl, x3⟩; have R3 := Lib.hid (R2.out.ext0 x3); have F3 := Lib.hid (F2.out.ext0 x3); have X3 : Hid (Ext (GG g g') w w3) := Lib.hid (X2.out.trans0 x3); have hcc := x3.cell hcc (fun a => a); clear x3))
  go_wp2
  go_ret
  exact ⟨by simp, Both.step R3.out F3.out NN.out X3.out⟩

end Go.Proofs.Ytmobdofkiddfhaa
