/- Package disk as the laws use it: a disk that may be written, rows and disks that stay. -/
import Derived.Test.YtghkgfeamijefaaDisk10
import Derived.Test.YtghkgfeamijefaaBook
import Derived.Lib.SlBytesConst
set_option linter.unusedVariables false
set_option linter.unusedSimpArgs false
namespace Go.Proofs.Ytghkgfeamijefaa
open Go.RowKit B
/-- Disk g, which may be written; rows rs and disks qs, which stay; nothing of w0 is written. -/
def Lw (w0 : World) (rs : List (Option Addr × List Int)) (qs : List (Nat × DS)) (g : Nat) (D : DS) (w : World) : Prop :=
  (∃ M C, DiskAt w M C g D ∧ (∀ k, M k → w0.heap.size ≤ k ∧ ∀ r ∈ rs, ∀ ad, r.1 = some ad → ad.block ≠ k) ∧ (∀ q ∈ qs, ∃ M2 C2, DiskAt w M2 C2 q.1 q.2 ∧ (∀ k, M2 k ∨ C2 k → ¬ M k) ∧ (∀ k, M2 k → w0.heap.size ≤ k ∧ ∀ r ∈ rs, ∀ ad, r.1 = some ad → ad.block ≠ k) ∧ (∀ k, C2 k → ∀ r ∈ rs, ∀ ad, r.1 = some ad → ad.block ≠ k)) ∧ (∀ k, C k → ∀ r ∈ rs, ∀ ad, r.1 = some ad → ad.block ≠ k)) ∧ (∀ r ∈ rs, Row w r.1 (B8 r.2) ∧ ∀ ad, r.1 = some ad → ad.block < w.heap.size) ∧ Ext None_ w0 w
def bytB (l : List Int) : Bool := l.all fun x => decide (0 ≤ x) && decide (x < 256)
theorem byt_of_B {l : List Int} (h : bytB l = true) : Byt l := fun x hx => by
  unfold bytB at h
  rw [List.all_eq_true] at h
  have := h x hx
  simpa using this
/-- What may be written. -/
def Wr (w0 : World) (rs : List (Option Addr × List Int)) (k : Nat) : Prop := w0.heap.size ≤ k ∧ ∀ r ∈ rs, ∀ ad, r.1 = some ad → ad.block ≠ k
section
variable {w0 w w' : World} {rs : List (Option Addr × List Int)} {qs : List (Nat × DS)} {g : Nat} {D : DS}
theorem Lw.ext0 (h : Lw w0 rs qs g D w) (hx : Ext None_ w w') : Lw w0 rs qs g D w' := by
  obtain ⟨⟨M, C, h1, h2, h3, h6⟩, h4, h5⟩ := h
  refine ⟨⟨M, C, h1.ext0 hx, h2, fun q hq => ?_, h6⟩, fun r hr => ⟨(h4 r hr).1.ext0 hx, fun ad e => Nat.lt_of_lt_of_le ((h4 r hr).2 ad e) hx.size⟩, h5.trans0 hx⟩
  obtain ⟨M2, C2, a1, a2, a3⟩ := h3 q hq
  exact ⟨M2, C2, a1.ext0 hx, a2, a3⟩
theorem Lw.x (h : Lw w0 rs qs g D w) : Ext None_ w0 w := h.2.2
theorem Lw.row (h : Lw w0 rs qs g D w) {A : Option Addr} {l : List Int} (hr : (A, l) ∈ rs) : Row w A (B8 l) := (h.2.1 _ hr).1
theorem Lw.sub (h : Lw w0 rs qs g D w) {rs' : List (Option Addr × List Int)} {qs' : List (Nat × DS)} (hr : ∀ r ∈ rs', r ∈ rs) (hq : ∀ q ∈ qs', q ∈ qs) : Lw w0 rs' qs' g D w := by
  obtain ⟨⟨M, C, h1, h2, h3, h6⟩, h4, h5⟩ := h
  refine ⟨⟨M, C, h1, fun k hk => ⟨(h2 k hk).1, fun r h => (h2 k hk).2 r (hr r h)⟩, fun q h => ?_, fun k hk r h => h6 k hk r (hr r h)⟩, fun r h => h4 r (hr r h), h5⟩
  obtain ⟨M2, C2, a1, a2, a3, a4⟩ := h3 q (hq q h)
  exact ⟨M2, C2, a1, a2, fun k hk => ⟨(a3 k hk).1, fun r h => (a3 k hk).2 r (hr r h)⟩, fun k hk r h => a4 k hk r (hr r h)⟩
/-- A row that is new. -/
theorem Lw.addRow (h : Lw w0 rs qs g D w) (hx : Ext None_ w w') {A : Option Addr} {l : List Int} (hr : Row w' A (B8 l)) (hb : ∀ ad, A = some ad → w.heap.size ≤ ad.block ∧ ad.block < w'.heap.size) : Lw w0 ((A, l) :: rs) qs g D w' := by
  obtain ⟨⟨M, C, h1, h2, h3, h6⟩, h4, h5⟩ := h
  refine ⟨⟨M, C, h1.ext0 hx, fun k hk => ⟨(h2 k hk).1, fun r hr2 => ?_⟩, fun q hq => ?_, fun k hk r hr2 => ?_⟩, fun r hr2 => ?_, h5.trans0 hx⟩
  · rcases List.mem_cons.1 hr2 with rfl | hr2
    · intro ad e
      have := (hb ad e).1
      have := h1.mlt k hk
      omega
    · exact (h2 k hk).2 r hr2
  · obtain ⟨M2, C2, a1, a2, a3, a4⟩ := h3 q hq
    refine ⟨M2, C2, a1.ext0 hx, a2, fun k hk => ⟨(a3 k hk).1, fun r hr2 => ?_⟩, fun k hk r hr2 => ?_⟩
    · rcases List.mem_cons.1 hr2 with rfl | hr2
      · intro ad e
        have := (hb ad e).1
        have := a1.mlt k hk
        omega
      · exact (a3 k hk).2 r hr2
    · rcases List.mem_cons.1 hr2 with rfl | hr2
      · intro ad e
        have := (hb ad e).1
        have := a1.clt k hk
        omega
      · exact a4 k hk r hr2
  · rcases List.mem_cons.1 hr2 with rfl | hr2
    · intro ad e
      have := (hb ad e).1
      have := h1.clt k hk
      omega
    · exact h6 k hk r hr2
  · rcases List.mem_cons.1 hr2 with rfl | hr2
    · exact ⟨hr, fun ad e => (hb ad e).2⟩
    · exact ⟨(h4 r hr2).1.ext0 hx, fun ad e => Nat.lt_of_lt_of_le ((h4 r hr2).2 ad e) hx.size⟩
theorem Lw.left (hq : ∀ q ∈ qs, True) {M C : Nat → Prop} {D' : DS} (h2 : ∀ k, M k → w0.heap.size ≤ k ∧ ∀ r ∈ rs, ∀ ad, r.1 = some ad → ad.block ≠ k) (h3 : ∀ q ∈ qs, ∃ M2 C2, DiskAt w M2 C2 q.1 q.2 ∧ (∀ k, M2 k ∨ C2 k → ¬ M k) ∧ (∀ k, M2 k → w0.heap.size ≤ k ∧ ∀ r ∈ rs, ∀ ad, r.1 = some ad → ad.block ≠ k) ∧ (∀ k, C2 k → ∀ r ∈ rs, ∀ ad, r.1 = some ad → ad.block ≠ k)) (h6 : ∀ k, C k → ∀ r ∈ rs, ∀ ad, r.1 = some ad → ad.block ≠ k) (h4 : ∀ r ∈ rs, Row w r.1 (B8 r.2) ∧ ∀ ad, r.1 = some ad → ad.block < w.heap.size) (h5 : Ext None_ w0 w) (hl : Left w w' M C g D') : Lw w0 rs qs g D' w' := by
  obtain ⟨M', C', k1, k2, k3, k4⟩ := hl
  refine ⟨⟨M', C', k1, fun k hk => ?_, fun q hq => ?_, fun k hk r hr ad e => ?_⟩, fun r hr => ⟨(h4 r hr).1.ext k2 (fun ad e hm => (h2 _ hm).2 r hr ad e rfl), fun ad e => Nat.lt_of_lt_of_le ((h4 r hr).2 ad e) k2.size⟩, (h5.trans k2 (fun k hk hm => by have := (h2 k hm).1; omega))⟩
  · rcases k3 k hk with h | h
    · exact h2 k h
    · exact ⟨Nat.le_trans h5.size h, fun r hr ad e => by have := (h4 r hr).2 ad e; omega⟩
  · obtain ⟨M2, C2, a1, a2, a3⟩ := h3 q hq
    refine ⟨M2, C2, a1.ext k2 (fun k hk => a2 k (.inl hk)) (fun k hk => a2 k (.inr hk)), fun k hk hm => ?_, a3⟩
    rcases k3 k hm with h | h
    · exact a2 k hk h
    · rcases hk with hk | hk
      · have := a1.mlt k hk; omega
      · have := a1.clt k hk; omega
  · rcases k4 k hk with h | h
    · exact h6 k h r hr ad e
    · have := (h4 r hr).2 ad e; omega
theorem Left.all {M C : Nat → Prop} {D : DS} (h : Left w w' M C g D) (h2 : ∀ k, M k → w0.heap.size ≤ k ∧ ∀ r ∈ rs, ∀ ad, r.1 = some ad → ad.block ≠ k) : Ext (Wr w0 rs) w w' := by
  obtain ⟨_, _, _, h3, _⟩ := h
  exact h3.mono (fun k _ hk => h2 k hk)
theorem lw_write (h : Lw w0 rs qs g D w) (f z : Int) (A2 : Option Addr) (c2 : Nat) (p : List Int) (hp : Row w A2 (B8 p)) (hby : Byt p) (hpM : ∀ ad, A2 = some ad → 0 < p.length → (∃ r ∈ rs, r.1 = some ad) ∨ ad.block < w0.heap.size) (hwl : D.wait.length ≤ 1099511627776) (hpl : p.length ≤ 140737488355328) :
    Calls Try.prog 16 #[.pointer (some ⟨g, 0, none⟩), .int .i64 f, .int .i64 z, .slice A2 p.length c2] w fun e w' => e = .returned (.int .i64 (writeD D f z p).1) ∧ Lw w0 rs qs g (writeD D f z p).2 w' ∧ Ext (Wr w0 rs) w w' := by
  obtain ⟨⟨M, C, h1, h2, h3, h6⟩, h4, h5⟩ := h
  refine (DWrite_any g D M C f z A2 c2 p w h1 hp hby (fun ad e hl hm => ?_) hwl hpl).mono fun e w' ⟨k1, k2⟩ => ⟨k1, Lw.left (fun _ _ => trivial) h2 h3 h6 h4 h5 k2, k2.all h2⟩
  rcases hpM ad e hl with ⟨r, hr, he⟩ | h
  · exact (h2 _ hm).2 r hr ad he rfl
  · have := (h2 _ hm).1; omega
theorem lw_cut (h : Lw w0 rs qs g D w) (f z : Int) (hwl : D.wait.length ≤ 1099511627776) :
    Calls Try.prog 27 #[.pointer (some ⟨g, 0, none⟩), .int .i64 f, .int .i64 z] w fun e w' => e = .returned (.int .i64 (cutD D f z).1) ∧ Lw w0 rs qs g (cutD D f z).2 w' ∧ Ext (Wr w0 rs) w w' := by
  obtain ⟨⟨M, C, h1, h2, h3, h6⟩, h4, h5⟩ := h
  exact (DCut_any g D M C f z w h1 hwl).mono fun e w' ⟨k1, k2⟩ => ⟨k1, Lw.left (fun _ _ => trivial) h2 h3 h6 h4 h5 k2, k2.all h2⟩
theorem lw_sync (h : Lw w0 rs qs g D w) : Calls Try.prog 26 #[.pointer (some ⟨g, 0, none⟩)] w fun e w' => e = .returned (.int .i64 (syncD D).1) ∧ Lw w0 rs qs g (syncD D).2 w' ∧ Ext (Wr w0 rs) w w' := by
  obtain ⟨⟨M, C, h1, h2, h3, h6⟩, h4, h5⟩ := h
  exact (DSync_any g D M C w h1).mono fun e w' ⟨k1, k2, k3⟩ => ⟨k1, Lw.left (fun _ _ => trivial) h2 h3 h6 h4 h5 (Left.same k2 k3), k3.mono (fun k _ hk => h2 k hk)⟩
theorem lw_arm (h : Lw w0 rs qs g D w) (n : Int) (hn : n ≤ 9223372036854775807) : Calls Try.prog 22 #[.pointer (some ⟨g, 0, none⟩), .int .i64 n] w fun e w' => e = .returned (.tuple #[]) ∧ Lw w0 rs qs g (armD D n) w' ∧ Ext (Wr w0 rs) w w' := by
  obtain ⟨⟨M, C, h1, h2, h3, h6⟩, h4, h5⟩ := h
  have hg : M g := by obtain ⟨_, _, _, _, _, _, _, _, h6, _⟩ := h1.lay; exact h6.1
  exact (DArm_any g D M C n hn w h1).mono fun e w' ⟨k1, k2, k3⟩ => ⟨k1, Lw.left (fun _ _ => trivial) h2 h3 h6 h4 h5 (Left.same k2 (k3.mono (fun k _ e => e ▸ hg))), k3.mono (fun k _ e => h2 k (e ▸ hg))⟩
/-- A disk that is read only. -/
def IsD (w : World) (g : Nat) (D : DS) : Prop := ∃ M C, DiskAt w M C g D
theorem IsD.ext0 (h : IsD w g D) (hx : Ext None_ w w') : IsD w' g D := by obtain ⟨M, C, h⟩ := h; exact ⟨M, C, h.ext0 hx⟩
theorem Lw.is (h : Lw w0 rs qs g D w) : IsD w g D := by obtain ⟨⟨M, C, h1, _⟩, _⟩ := h; exact ⟨M, C, h1⟩
theorem Lw.isQ (h : Lw w0 rs qs g D w) {g2 : Nat} {D2 : DS} (hq : (g2, D2) ∈ qs) : IsD w g2 D2 := by obtain ⟨⟨M, C, _, _, h3, _⟩, _⟩ := h; obtain ⟨M2, C2, a, _⟩ := h3 _ hq; exact ⟨M2, C2, a⟩
theorem is_room (h : IsD w g D) : Calls Try.prog 28 #[.pointer (some ⟨g, 0, none⟩)] w fun e w' => e = .returned (.int .i64 (D.quota - heldN D.files)) ∧ Ext None_ w w' := by
  obtain ⟨M, C, h⟩ := h
  exact DRoom_any g D M C w h
theorem is_off (h : IsD w g D) : Calls Try.prog 30 #[.pointer (some ⟨g, 0, none⟩)] w fun e w' => e = .returned (.bool D.off) ∧ Ext None_ w w' := by
  obtain ⟨M, C, h⟩ := h
  exact DOff_any g D M C w h
theorem is_waiting (h : IsD w g D) : Calls Try.prog 29 #[.pointer (some ⟨g, 0, none⟩)] w fun e w' => e = .returned (.int .i64 D.wait.length) ∧ Ext None_ w w' := by
  obtain ⟨M, C, h⟩ := h
  exact DWaiting_any g D M C w h
theorem is_read (h : IsD w g D) (f : Int) : Calls Try.prog 24 #[.pointer (some ⟨g, 0, none⟩), .int .i64 f] w fun e w' => ∃ A c, e = .returned (.slice A (readF D f).length c) ∧ Row w' A (B8 (readF D f)) ∧ OwnB w' (fun k => w.heap.size ≤ k) (.slice A (readF D f).length c) (readF D f) ∧ (∀ ad, A = some ad → w.heap.size ≤ ad.block ∧ ad.block < w'.heap.size) ∧ (readF D f).length ≤ c ∧ Ext None_ w w' := by
  obtain ⟨M, C, h⟩ := h
  refine (DRead_any g D M C f w h).mono fun e w' ⟨v, h1, h2, h3⟩ => ?_
  obtain ⟨A, c, rfl, hc, _, hr⟩ := Own.slice h2
  refine ⟨A, c, h1, hr, h2, fun ad e => ?_, hc, h3⟩
  subst e
  exact ⟨h2.blk _ rfl, Own.lt h2 _ rfl⟩
theorem is_crash (h : IsD w g D) (keep torn : Int) (hk : I64 keep) (hwl : D.wait.length ≤ 1099511627776) : Calls Try.prog 23 #[.pointer (some ⟨g, 0, none⟩), .int .i64 keep, .int .i64 torn] w fun e w' => ∃ g', e = .returned (.pointer (some ⟨g', 0, none⟩)) ∧ IsD w' g' (crashD D keep torn) ∧ Ext None_ w w' := by
  obtain ⟨M, C, h⟩ := h
  exact (DCrash_any g D M C keep torn w h hk hwl).mono fun e w' ⟨g', h1, ⟨M', C', h2, _⟩, h3⟩ => ⟨g', h1, ⟨M', C', h2⟩, h3⟩
theorem lw_crash (h : Lw w0 rs qs g D w) (keep torn : Int) (hk : I64 keep) (hwl : D.wait.length ≤ 1099511627776) : Calls Try.prog 23 #[.pointer (some ⟨g, 0, none⟩), .int .i64 keep, .int .i64 torn] w fun e w' => ∃ g', e = .returned (.pointer (some ⟨g', 0, none⟩)) ∧ Lw w0 rs ((g', crashD D keep torn) :: qs) g D w' ∧ Lw w0 rs ((g, D) :: qs) g' (crashD D keep torn) w' := by
  obtain ⟨⟨M, C, h1, h2, h3, h6⟩, h4, h5⟩ := h
  refine (DCrash_any g D M C keep torn w h1 hk hwl).mono fun e w' ⟨g', k1, ⟨M', C', k2, k3, k4⟩, k5⟩ => ⟨g', k1, ?_, ?_⟩
  · refine ⟨⟨M, C, h1.ext0 k5, h2, fun q hq => ?_, h6⟩, fun r hr => ⟨(h4 r hr).1.ext0 k5, fun ad e => Nat.lt_of_lt_of_le ((h4 r hr).2 ad e) k5.size⟩, h5.trans0 k5⟩
    rcases List.mem_cons.1 hq with rfl | hq
    · refine ⟨M', C', k2, fun k hk hm => ?_, fun k hk => ⟨Nat.le_trans h5.size (k3 k hk), fun r hr ad e => by have := (h4 r hr).2 ad e; have := k3 k hk; omega⟩, fun k hk r hr ad e => by
        rcases k4 k hk with h | h
        · exact h6 k h r hr ad e
        · have := (h4 r hr).2 ad e; omega⟩
      have := h1.mlt k hm
      rcases hk with hk | hk
      · have := k3 k hk; omega
      · rcases k4 k hk with h | h
        · exact h1.apart k h hm
        · omega
    · obtain ⟨M2, C2, a1, a2, a3⟩ := h3 q hq
      exact ⟨M2, C2, a1.ext0 k5, a2, a3⟩
  · refine ⟨⟨M', C', k2, fun k hk => ⟨Nat.le_trans h5.size (k3 k hk), fun r hr ad e => by have := (h4 r hr).2 ad e; have := k3 k hk; omega⟩, fun q hq => ?_, fun k hk r hr ad e => by
      rcases k4 k hk with h | h
      · exact h6 k h r hr ad e
      · have := (h4 r hr).2 ad e; omega⟩, fun r hr => ⟨(h4 r hr).1.ext0 k5, fun ad e => Nat.lt_of_lt_of_le ((h4 r hr).2 ad e) k5.size⟩, h5.trans0 k5⟩
    rcases List.mem_cons.1 hq with rfl | hq
    · refine ⟨M, C, h1.ext0 k5, fun k hk hm => ?_, h2, h6⟩
      have := k3 k hm
      rcases hk with hk | hk
      · have := h1.mlt k hk; omega
      · have := h1.clt k hk; omega
    · obtain ⟨M2, C2, a1, a2, a3⟩ := h3 q hq
      refine ⟨M2, C2, a1.ext0 k5, fun k hk hm => ?_, a3⟩
      have := k3 k hm
      rcases hk with hk | hk
      · have := a1.mlt k hk; omega
      · have := a1.clt k hk; omega
/-- A block of the law's own is written. -/
theorem Lw.setProt (h : Lw w0 rs qs g D w) {b : Nat} (hb : ∃ r ∈ rs, r.1 = some ⟨b, 0, none⟩) (hx : Ext (fun k => k = b) w w') (hw : w0.heap.size ≤ b) (hrow : ∀ r ∈ rs, r.2 = [] ∨ ∀ ad, r.1 = some ad → ad.block ≠ b) : Lw w0 rs qs g D w' := by
  obtain ⟨⟨M, C, h1, h2, h3, h6⟩, h4, h5⟩ := h
  obtain ⟨r0, hr0, e0⟩ := hb
  refine ⟨⟨M, C, h1.ext hx (fun k hk e => (h2 k hk).2 r0 hr0 _ e0 e.symm) (fun k hk e => h6 k hk r0 hr0 _ e0 e.symm), h2, fun q hq => ?_, h6⟩, fun r hr => ⟨?_, fun ad e => Nat.lt_of_lt_of_le ((h4 r hr).2 ad e) hx.size⟩, h5.trans hx (fun k hk e => by have e : k = b := e; omega)⟩
  · obtain ⟨M2, C2, a1, a2, a3, a4⟩ := h3 q hq
    exact ⟨M2, C2, a1.ext hx (fun k hk e => (a3 k hk).2 r0 hr0 _ e0 e.symm) (fun k hk e => a4 k hk r0 hr0 _ e0 e.symm), a2, a3, a4⟩
  · rcases hrow r hr with h | h
    · rw [h]; exact Row.nil _ _
    · exact (h4 r hr).1.ext hx (fun ad e hs => h ad e hs)
theorem lw_new (q : Int) (w : World) (h0 : 0 ≤ q) (h1 : q ≤ 1048576) : Calls Try.prog 15 #[.int .i64 q] w fun e w' => ∃ g, e = .returned (.tuple #[.pointer (some ⟨g, 0, none⟩), .int .i64 0]) ∧ Lw w [] [] g (emptyD q) w' := by
  refine (DNew_ok q w h0 h1).mono fun e w' ⟨g, k1, k2, k3⟩ => ⟨g, k1, ⟨_, _, k2, fun k hk => ⟨hk.1, fun r hr => by simp at hr⟩, fun q hq => by simp at hq, fun k hk => hk.elim⟩, fun r hr => by simp at hr, k3⟩
end
section
variable {w0 w : World} {rs : List (Option Addr × List Int)} {qs : List (Nat × DS)} {g : Nat} {D D' : DS} {e0 : Int}
theorem lw_writeE (h : Lw w0 rs qs g D w) {f z : Int} {p : List Int} (hw : writeD D f z p = (e0, D')) (A2 : Option Addr) (c2 : Nat) (hp : Row w A2 (B8 p)) (hby : Byt p) (hpM : ∀ ad, A2 = some ad → 0 < p.length → (∃ r ∈ rs, r.1 = some ad) ∨ ad.block < w0.heap.size) (hwl : D.wait.length ≤ 1099511627776) (hpl : p.length ≤ 140737488355328) :
    Calls Try.prog 16 #[.pointer (some ⟨g, 0, none⟩), .int .i64 f, .int .i64 z, .slice A2 p.length c2] w fun e w' => e = .returned (.int .i64 e0) ∧ Lw w0 rs qs g D' w' ∧ Ext (Wr w0 rs) w w' := by
  have := lw_write h f z A2 c2 p hp hby hpM hwl hpl
  rwa [hw] at this
theorem lw_cutE (h : Lw w0 rs qs g D w) {f z : Int} (hw : cutD D f z = (e0, D')) (hwl : D.wait.length ≤ 1099511627776) : Calls Try.prog 27 #[.pointer (some ⟨g, 0, none⟩), .int .i64 f, .int .i64 z] w fun e w' => e = .returned (.int .i64 e0) ∧ Lw w0 rs qs g D' w' ∧ Ext (Wr w0 rs) w w' := by
  have := lw_cut h f z hwl
  rwa [hw] at this
theorem lw_syncE (h : Lw w0 rs qs g D w) (hw : syncD D = (e0, D')) : Calls Try.prog 26 #[.pointer (some ⟨g, 0, none⟩)] w fun e w' => e = .returned (.int .i64 e0) ∧ Lw w0 rs qs g D' w' ∧ Ext (Wr w0 rs) w w' := by
  have := lw_sync h
  rwa [hw] at this
theorem is_readE (h : IsD w g D) {f : Int} {l : List Int} (hr : readF D f = l) : Calls Try.prog 24 #[.pointer (some ⟨g, 0, none⟩), .int .i64 f] w fun e w' => ∃ A c, e = .returned (.slice A l.length c) ∧ Row w' A (B8 l) ∧ OwnB w' (fun k => w.heap.size ≤ k) (.slice A l.length c) l ∧ (∀ ad, A = some ad → w.heap.size ≤ ad.block ∧ ad.block < w'.heap.size) ∧ l.length ≤ c ∧ Ext None_ w w' := by
  have := is_read h f
  rwa [hr] at this
end
/-! ### words of drawn regions -/
def WLw (w0 : World) (rs : List (Option Addr × List Int)) (qs : List (Nat × DS)) (g : Nat) (D : DS) : WI := ⟨fun w => Lw w0 rs qs g D w, fun _ _ h hx => h.ext0 hx⟩
def loudS (L : List Bool) : Nat → Nat → Prop := fun j _ => L.getD j false = true
theorem quietS {L : List Bool} {j : Nat} {w w' : World} (h : L.getD j false = false) (hx : Ext (loudS L j) w w') : Ext None_ w w' := hx.mono (fun _ _ e => by unfold loudS at e; rw [h] at e; cases e)
theorem ofQ {S : Nat → Prop} {w w' : World} (hx : Ext None_ w w') : Ext S w w' := hx.mono (fun _ _ a => a.elim)
theorem ofAll {L : List Bool} {j : Nat} {S : Nat → Prop} {w w' : World} (h : L.getD j false = true) (hx : Ext S w w') : Ext (loudS L j) w w' := hx.mono (fun _ _ _ => h)
def okR (L : List Bool) (lo hi : Nat) : Bool := (List.range hi).all fun k => decide (k < lo) || !L.getD k false
theorem okR_at {L : List Bool} {lo hi k : Nat} (h : okR L lo hi = true) (h1 : lo ≤ k) (h2 : k < hi) : L.getD k false = false := by
  unfold okR at h
  rw [List.all_eq_true] at h
  have := h k (List.mem_range.2 h2)
  simp only [Bool.or_eq_true, decide_eq_true_eq, Bool.not_eq_true'] at this
  rcases this with h | h
  · omega
  · exact h
def cRw (L : List Bool) (lo hi : Nat) (h : okR L lo hi = true) (l : List Int) : CG (loudS L) := cR lo hi (fun u w => ∃ A c, u = .slice A l.length c ∧ Row w A (B8 l)) (fun _ _ _ ⟨A, c, h1, h2⟩ hx => ⟨A, c, h1, h2.ext0 hx⟩) (fun _ h1 h2 _ _ _ ⟨A, c, h3, h4⟩ hx => ⟨A, c, h3, h4.ext0 (quietS (okR_at h h1 h2) hx)⟩)
def cDk (L : List Bool) (k : Nat) (D : DS) : CG (loudS L) := cR k k (fun u w => ∃ g', u = .pointer (some ⟨g', 0, none⟩) ∧ IsD w g' D) (fun _ _ _ ⟨g', h1, h2⟩ hx => ⟨g', h1, h2.ext0 hx⟩) (fun _ h1 h2 => by omega)
def cBW (L : List Bool) (k : Nat) (w0 : World) (rs : List (Option Addr × List Int)) (qs : List (Nat × DS)) (g : Nat) (D : DS) (l : List Int) : CG (loudS L) := cR k k (fun u w => ∃ b, u = .slice (some ⟨b, 0, none⟩) l.length l.length ∧ Lw w0 ((some ⟨b, 0, none⟩, l) :: rs) qs g D w) (fun _ _ _ ⟨b, h1, h2⟩ hx => ⟨b, h1, h2.ext0 hx⟩) (fun _ h1 h2 => by omega)
/-! ### []byte of a constant: the row's mark -/
theorem freeze_ext {w : World} {b k : Nat} : Ext (fun q => q = b) w (w.freeze ⟨b, k, none⟩ 1) := by
  unfold World.freeze
  rw [if_neg (by decide)]
  exact ⟨rfl, rfl, rfl, by simp, fun q hq hn => by simp only [Array.getElem?_modify]; rw [if_neg (fun e => hn e.symm)]⟩
theorem conv_mark {w : World} {b n c : Nat} {C : Array Value} {fr : Nat × Nat} (hb : w.heap[b]? = some (.cells C 5 fr)) : ∃ w', (convert 22 22 (.slice (some ⟨b, 0, none⟩) n c)).run Try.prog w = .ok (.slice (some ⟨b, 0, none⟩) n c) w' ∧ Ext (fun q => q = b) w w' ∧ Row w' (some ⟨b, 0, none⟩) C.toList := by
  refine ⟨w.freeze ⟨b, C.size, none⟩ 1, ?_, freeze_ext, ?_⟩
  · have hsh : w.shape? b = some (5, C.size) := by
      unfold World.shape?
      rw [hb]
    simp [convert, run_underlying (P := Try.prog) Try.underlying22, run_underlying (P := Try.prog) Try.underlying5, markStringish, hsh]
  · intro i v hi
    refine ⟨_, rfl, ?_⟩
    obtain ⟨lo, hi'⟩ := fr
    have h2 : ∃ fr', (w.freeze ⟨b, C.size, none⟩ 1).heap[b]? = some (.cells C 5 fr') := by
      unfold World.freeze
      rw [if_neg (by decide)]
      simp only [Array.getElem?_modify, hb]
      exact ⟨_, rfl⟩
    obtain ⟨fr', h2⟩ := h2
    rw [add_plain, cell_of_row _ b i C _ fr' h2]
    simpa using hi
theorem Row.ofHeap {w : World} {b : Nat} {C : Array Value} {t : TypeId} {fr : Nat × Nat} (hb : w.heap[b]? = some (.cells C t fr)) : Row w (some ⟨b, 0, none⟩) C.toList := fun i v hi => ⟨_, rfl, by rw [add_plain, cell_of_row _ b i C _ fr hb]; simpa using hi⟩
theorem lit_ext {wp w w' : World} {b : Nat} (h1 : wp.heap.size ≤ b) (h2 : Ext None_ wp w) (h3 : Ext (fun q => q = b) w w') : Ext None_ wp w' := (h2.mono (fun _ _ a => a.elim)).trans h3 (fun k hk e => by have e : k = b := e; omega)
/-- A literal for a Write, ahead of its mark. -/
def cLit (L : List Bool) (k : Nat) (w0 : World) (rs : List (Option Addr × List Int)) (qs : List (Nat × DS)) (g : Nat) (D : DS) (l : List Int) : CG (loudS L) := cR k k (fun u w => ∃ wp b, u = .slice (some ⟨b, 0, none⟩) l.length l.length ∧ Lw w0 rs qs g D wp ∧ wp.heap.size ≤ b ∧ Ext None_ wp w ∧ w.heap[b]? = some (.cells (B8 l).toArray 5 (0, 0))) (fun _ _ _ ⟨wp, b, h1, h2, h3, h4, h5⟩ hx => ⟨wp, b, h1, h2, h3, h4.trans0 hx, hx.get h5 (fun a => a)⟩) (fun _ h1 h2 => by omega)
theorem opConvMark {L : List Bool} {k : Nat} {w0 : World} {rs : List (Option Addr × List Int)} {qs : List (Nat × DS)} {g : Nat} {D : DS} {l : List Int} {o : Oper} {a : Act} {w : World} {K : Act → World → Prop} {Q : Exit → Act → World → Prop} {x : Operand} (hL : L.getD k false = true)
    (hK : ∀ v w', (cBW L (k + 1) w0 rs qs g D l).p (k + 1) v w' → (WLw w0 rs qs g D).q w' → Ext (loudS L k) w w' → K (a.put o.dst v) w') (ho : o.op = .convert 22 22 x) {u : Value} (hx : a.eval x = u) (hp : (cLit L k w0 rs qs g D l).p k u w) : o.wp Try.prog a w K Q := by
  obtain ⟨wp, b, rfl, h2, h3, h4, h5⟩ := hp.2 (Nat.le_refl _)
  obtain ⟨w', hr, h6, h7⟩ := conv_mark (n := l.length) (c := l.length) h5
  have h8 := lit_ext h3 h4 h6
  have hb : b < w'.heap.size := Nat.lt_of_lt_of_le (Array.getElem?_eq_some_iff.1 h5).1 h6.size
  refine opRunC hK (v := .slice (some ⟨b, 0, none⟩) l.length l.length) (w' := w') ?_ ⟨Nat.le_refl _, fun _ => ⟨b, rfl, h2.addRow h8 (by simpa using h7) (fun ad e => by cases e; exact ⟨h3, hb⟩)⟩⟩ (h2.ext0 h8) (h6.mono (fun _ _ _ => hL))
  unfold execOp
  simp only [ho, hx]
  simp [hr]
end Go.Proofs.Ytghkgfeamijefaa
