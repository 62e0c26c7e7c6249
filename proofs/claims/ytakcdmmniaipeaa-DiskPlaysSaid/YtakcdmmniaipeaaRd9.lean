/- Both disks side by side: the program's and the document's. -/
import Derived.Test.YtakcdmmniaipeaaRd8
import Derived.Test.YtakcdmmniaipeaaDisk14
set_option linter.unusedVariables false
set_option linter.unusedSimpArgs false
namespace Go.Proofs.Ytakcdmmniaipeaa
open Go.RowKit B
/-- Blocks that a call on one of the disks may touch. -/
def KX (w0 : World) (ps : List Nat) (k : Nat) : Prop := k ∉ ps ∧ w0.heap.size ≤ k
/-- Both disks, made behind w0, that touch none of the kept blocks ps. -/
def Two (w0 : World) (ps : List Nat) (g : Nat) (D : DS) (gr : Nat) (Dr : DS) (W : World) : Prop := ∃ M C Z, DiskAt W M C g D ∧ RD W Z gr Dr ∧ (∀ k, M k → ¬ Z k ∧ k ≠ gr ∧ w0.heap.size ≤ k) ∧ ¬ C gr ∧ w0.heap.size ≤ gr ∧ Ext None_ w0 W ∧ ∀ k ∈ ps, k < W.heap.size ∧ ¬ M k ∧ ¬ C k ∧ ¬ Z k ∧ k ≠ gr
section
variable {w0 W W' : World} {ps : List Nat} {g gr : Nat} {D Dr : DS}
theorem Two.x (h : Two w0 ps g D gr Dr W) : Ext None_ w0 W := by obtain ⟨M, C, Z, _, _, _, _, _, h, _⟩ := h; exact h
theorem Two.ok (h : Two w0 ps g D gr Dr W) : D.ok := by obtain ⟨M, C, Z, h, _⟩ := h; exact h.ok
theorem Two.isD (h : Two w0 ps g D gr Dr W) : IsD W g D := by obtain ⟨M, C, Z, h, _⟩ := h; exact ⟨M, C, h⟩
theorem Two.ref (h : Two w0 ps g D gr Dr W) : ∃ Z, RD W Z gr Dr := by obtain ⟨M, C, Z, _, h, _⟩ := h; exact ⟨Z, h⟩
theorem Two.ext0 (h : Two w0 ps g D gr Dr W) (hx : Ext None_ W W') : Two w0 ps g D gr Dr W' := by
  obtain ⟨M, C, Z, h1, h2, h3, h4, h5, h6, h7⟩ := h
  exact ⟨M, C, Z, h1.ext0 hx, h2.ext0 hx, h3, h4, h5, h6.trans0 hx, fun k hk => ⟨Nat.lt_of_lt_of_le (h7 k hk).1 hx.size, (h7 k hk).2⟩⟩
theorem Two.add (h : Two w0 ps g D gr Dr W) (hx : Ext None_ W W') {b : Nat} (hb : W.heap.size ≤ b) (hb2 : b < W'.heap.size) : Two w0 (b :: ps) g D gr Dr W' := by
  obtain ⟨M, C, Z, h1, h2, h3, h4, h5, h6, h7⟩ := h
  refine ⟨M, C, Z, h1.ext0 hx, h2.ext0 hx, h3, h4, h5, h6.trans0 hx, fun k hk => ?_⟩
  rcases List.mem_cons.1 hk with rfl | hk
  · exact ⟨hb2, fun e => by have := h1.mlt k e; omega, fun e => by have := h1.clt k e; omega, fun e => by have := h2.at_.zlt k e; omega, fun e => by have := h2.at_.lt; omega⟩
  · exact ⟨Nat.lt_of_lt_of_le (h7 k hk).1 hx.size, (h7 k hk).2⟩
theorem Two.less (h : Two w0 ps g D gr Dr W) {qs : List Nat} (hq : ∀ k ∈ qs, k ∈ ps) : Two w0 qs g D gr Dr W := by
  obtain ⟨M, C, Z, h1, h2, h3, h4, h5, h6, h7⟩ := h
  exact ⟨M, C, Z, h1, h2, h3, h4, h5, h6, fun k hk => h7 k (hq k hk)⟩
/-- A kept block is written. -/
theorem Two.write (h : Two w0 ps g D gr Dr W) {b : Nat} (hb : b ∈ ps) (hw : w0.heap.size ≤ b) (hx : Ext (fun k => k = b) W W') : Two w0 ps g D gr Dr W' := by
  obtain ⟨M, C, Z, h1, h2, h3, h4, h5, h6, h7⟩ := h
  obtain ⟨q1, q2, q3, q4, q5⟩ := h7 b hb
  refine ⟨M, C, Z, h1.ext hx (fun k hk e => q2 (by have e : k = b := e; rw [← e]; exact hk)) (fun k hk e => q3 (by have e : k = b := e; rw [← e]; exact hk)), ⟨h2.at_.ext hx (fun e => q5 (by have e : gr = b := e; exact e.symm)) (fun k hk e => q4 (by have e : k = b := e; rw [← e]; exact hk)), h2.ok, h2.fi, h2.len⟩, h3, h4, h5, h6.trans hx (fun k hk e => by have e : k = b := e; omega), fun k hk => ⟨Nat.lt_of_lt_of_le (h7 k hk).1 hx.size, (h7 k hk).2⟩⟩
/-- A step of the program's disk. -/
theorem Two.prog (h : Two w0 ps g D gr Dr W) : ∃ M C, DiskAt W M C g D ∧ (∀ k ∈ ps, ¬ M k) ∧ (∀ k, M k → w0.heap.size ≤ k) ∧ ∀ D' W', Left W W' M C g D' → Two w0 ps g D' gr Dr W' ∧ Ext (KX w0 ps) W W' := by
  obtain ⟨M, C, Z, h1, h2, h3, h4, h5, h6, h7⟩ := h
  refine ⟨M, C, h1, fun k hk => (h7 k hk).2.1, fun k hk => (h3 k hk).2.2, fun D' W' hl => ?_⟩
  obtain ⟨M2, C2, a1, a2, a3, a4⟩ := hl
  have hs := h6.size
  have hr := h2.at_.lt
  refine ⟨⟨M2, C2, Z, a1, ⟨h2.at_.ext a2 (fun e => (h3 gr e).2.1 rfl) (fun k hk e => (h3 k e).1 hk), h2.ok, h2.fi, h2.len⟩, fun k hk => ?_, fun e => ?_, h5, h6.trans a2 (fun k hk e => by have := (h3 k e).2.2; omega), fun k hk => ?_⟩, a2.mono (fun k _ e => ⟨fun hk => (h7 k hk).2.1 e, (h3 k e).2.2⟩)⟩
  · rcases a3 k hk with e | e
    · exact h3 k e
    · exact ⟨fun hz => by have := h2.at_.zlt k hz; omega, by omega, by omega⟩
  · rcases a4 gr e with e | e
    · exact h4 e
    · omega
  · obtain ⟨q1, q2, q3, q4, q5⟩ := h7 k hk
    refine ⟨Nat.lt_of_lt_of_le q1 a2.size, fun e => ?_, fun e => ?_, q4, q5⟩
    · rcases a3 k e with e | e
      · exact q2 e
      · omega
    · rcases a4 k e with e | e
      · exact q3 e
      · omega
/-- A step of the document's disk. -/
theorem Two.docu (h : Two w0 ps g D gr Dr W) : ∃ Z, RD W Z gr Dr ∧ gr ∉ ps ∧ w0.heap.size ≤ gr ∧ ∀ D' W', RLeft W W' Z gr D' → Two w0 ps g D gr D' W' ∧ Ext (KX w0 ps) W W' := by
  obtain ⟨M, C, Z, h1, h2, h3, h4, h5, h6, h7⟩ := h
  refine ⟨Z, h2, fun hk => (h7 gr hk).2.2.2.2 rfl, h5, fun D' W' hl => ?_⟩
  obtain ⟨Z2, a1, a2, a3⟩ := hl
  have hs := h6.size
  refine ⟨⟨M, C, Z2, h1.ext a2 (fun k hk e => (h3 k hk).2.1 e) (fun k hk e => h4 (by have e : k = gr := e; rw [← e]; exact hk)), a1, fun k hk => ⟨fun hz => ?_, (h3 k hk).2⟩, h4, h5, h6.trans a2 (fun k hk e => by have e : k = gr := e; omega), fun k hk => ?_⟩, a2.mono (fun k _ e => ⟨fun hk => (h7 k hk).2.2.2.2 e, by have e : k = gr := e; omega⟩)⟩
  · rcases a3 k hz with e | e
    · exact (h3 k hk).1 e
    · have := h1.mlt k hk; omega
  · obtain ⟨q1, q2, q3, q4, q5⟩ := h7 k hk
    refine ⟨Nat.lt_of_lt_of_le q1 a2.size, q2, q3, fun e => ?_, q5⟩
    rcases a3 k e with e | e
    · exact q4 e
    · omega
theorem tp_write (h : Two w0 ps g D gr Dr W) (f z : Int) (A2 : Option Addr) (c2 : Nat) (p : List Int) (hp : Row W A2 (B8 p)) (hby : Byt p) (hpM : ∀ ad, A2 = some ad → 0 < p.length → ad.block ∈ ps ∨ ad.block < w0.heap.size) (hwl : D.wait.length ≤ 1000) (hpl : p.length ≤ 140737488355328) : Calls Try.prog 15 #[.pointer (some ⟨g, 0, none⟩), .int .i64 f, .int .i64 z, .slice A2 p.length c2] W fun e w' => e = .returned (.int .i64 (writeD D f z p).1) ∧ Two w0 ps g (writeD D f z p).2 gr Dr w' ∧ Ext (KX w0 ps) W w' := by
  obtain ⟨M, C, h1, h2, h3, h4⟩ := h.prog
  exact (DWrite_any g D M C f z A2 c2 p W h1 hp hby (fun ad e hl hm => by
    rcases hpM ad e hl with q | q
    · exact h2 _ q hm
    · have := h3 _ hm; omega) (by omega) hpl).mono fun e w' ⟨k1, k2⟩ => ⟨k1, h4 _ _ k2⟩
theorem tp_cut (h : Two w0 ps g D gr Dr W) (f z : Int) (hwl : D.wait.length ≤ 1000) : Calls Try.prog 26 #[.pointer (some ⟨g, 0, none⟩), .int .i64 f, .int .i64 z] W fun e w' => e = .returned (.int .i64 (cutD D f z).1) ∧ Two w0 ps g (cutD D f z).2 gr Dr w' ∧ Ext (KX w0 ps) W w' := by
  obtain ⟨M, C, h1, h2, h3, h4⟩ := h.prog
  exact (DCut_any g D M C f z W h1 (by omega)).mono fun e w' ⟨k1, k2⟩ => ⟨k1, h4 _ _ k2⟩
theorem tp_sync (h : Two w0 ps g D gr Dr W) : Calls Try.prog 25 #[.pointer (some ⟨g, 0, none⟩)] W fun e w' => e = .returned (.int .i64 (syncD D).1) ∧ Two w0 ps g (syncD D).2 gr Dr w' ∧ Ext (KX w0 ps) W w' := by
  obtain ⟨M, C, h1, h2, h3, h4⟩ := h.prog
  exact (DSync_any g D M C W h1).mono fun e w' ⟨k1, k2, k3⟩ => ⟨k1, h4 _ _ (Left.same k2 k3)⟩
theorem tp_arm (h : Two w0 ps g D gr Dr W) (n : Int) (hn : n ≤ 9223372036854775807) : Calls Try.prog 21 #[.pointer (some ⟨g, 0, none⟩), .int .i64 n] W fun e w' => e = .returned (.tuple #[]) ∧ Two w0 ps g (armD D n) gr Dr w' ∧ Ext (KX w0 ps) W w' := by
  obtain ⟨M, C, h1, h2, h3, h4⟩ := h.prog
  have hg : M g := by obtain ⟨_, _, _, _, _, _, _, _, h6, _⟩ := h1.lay; exact h6.1
  exact (DArm_any g D M C n hn W h1).mono fun e w' ⟨k1, k2, k3⟩ => ⟨k1, h4 _ _ (Left.same k2 (k3.mono (fun k _ e => e ▸ hg)))⟩
theorem td_write (h : Two w0 ps g D gr Dr W) (f z : Int) (A2 : Option Addr) (c2 : Nat) (p : List Int) (hD : D = (writeD Dr f z p).2) (hp : Row W A2 (B8 p)) (hby : Byt p) (hpM : ∀ ad, A2 = some ad → 0 < p.length → ad.block ∈ ps ∨ ad.block < w0.heap.size) (hwl : Dr.wait.length + 1 ≤ 1000) (hpl : p.length ≤ 140737488352000) : Calls Try.prog 56 #[.pointer (some ⟨gr, 0, none⟩), .int .i64 f, .int .i64 z, .slice A2 p.length c2] W fun e w' => e = .returned (.int .i64 (writeD Dr f z p).1) ∧ Two w0 ps g D gr (writeD Dr f z p).2 w' ∧ Ext (KX w0 ps) W w' := by
  have hok := h.ok
  obtain ⟨Z, h1, h2, h3, h4⟩ := h.docu
  exact (rwrite_any W Z gr Dr f z A2 c2 p h1 (hD ▸ hok) hwl hp hby (fun ad e hl => by
    rcases hpM ad e hl with q | q
    · exact fun e => h2 (e ▸ q)
    · omega) hpl).mono fun e w' ⟨k1, k2⟩ => ⟨k1, h4 _ _ k2⟩
theorem td_cut (h : Two w0 ps g D gr Dr W) (f z : Int) (hD : D = (cutD Dr f z).2) (hwl : Dr.wait.length + 1 ≤ 1000) : Calls Try.prog 57 #[.pointer (some ⟨gr, 0, none⟩), .int .i64 f, .int .i64 z] W fun e w' => e = .returned (.int .i64 (cutD Dr f z).1) ∧ Two w0 ps g D gr (cutD Dr f z).2 w' ∧ Ext (KX w0 ps) W w' := by
  have hok := h.ok
  obtain ⟨Z, h1, h2, h3, h4⟩ := h.docu
  exact (rcut_any W Z gr Dr f z h1 (hD ▸ hok) hwl).mono fun e w' ⟨k1, k2⟩ => ⟨k1, h4 _ _ k2⟩
theorem td_sync (h : Two w0 ps g D gr Dr W) : Calls Try.prog 58 #[.pointer (some ⟨gr, 0, none⟩)] W fun e w' => e = .returned (.int .i64 (syncD Dr).1) ∧ Two w0 ps g D gr (syncD Dr).2 w' ∧ Ext (KX w0 ps) W w' := by
  obtain ⟨Z, h1, h2, h3, h4⟩ := h.docu
  exact (rsync_any W Z gr Dr h1).mono fun e w' ⟨k1, k2⟩ => ⟨k1, h4 _ _ k2⟩
theorem armD_safe (D : DS) (n : Int) : (armD D n).safe = D.safe ∧ (armD D n).wait = D.wait ∧ (armD D n).files = D.files ∧ (armD D n).quota = D.quota := by
  unfold armD
  split <;> exact ⟨rfl, rfl, rfl, rfl⟩
theorem td_arm (h : Two w0 ps g D gr Dr W) (n : Int) (hD : D = armD Dr n) : Calls Try.prog 59 #[.pointer (some ⟨gr, 0, none⟩), .int .i64 n] W fun e w' => e = .returned (.tuple #[]) ∧ Two w0 ps g D gr (armD Dr n) w' ∧ Ext (KX w0 ps) W w' := by
  have hok := h.ok
  obtain ⟨Z, h1, h2, h3, h4⟩ := h.docu
  refine (rarm_any W Z gr Dr n h1.at_).mono fun e w' ⟨k1, k2, k3⟩ => ⟨k1, h4 _ _ ⟨Z, ⟨k2, hD ▸ hok, ?_, ?_⟩, k3, fun _ h => .inl h⟩⟩
  · rw [(armD_safe Dr n).1, (armD_safe Dr n).2.1, (armD_safe Dr n).2.2.1]; exact h1.fi
  · rw [(armD_safe Dr n).2.1]; exact h1.len
/-- Between two Crashes: the program's new disk is there, the document's not yet. -/
def Mid (w0 : World) (ps : List Nat) (g : Nat) (D : DS) (gr : Nat) (Dr : DS) (g' : Nat) (D' : DS) (W : World) : Prop := ∃ M C Z M' C', DiskAt W M C g D ∧ RD W Z gr Dr ∧ (∀ k, M k → ¬ Z k ∧ k ≠ gr ∧ w0.heap.size ≤ k) ∧ ¬ C gr ∧ w0.heap.size ≤ gr ∧ Ext None_ w0 W ∧ (∀ k ∈ ps, k < W.heap.size ∧ ¬ M k ∧ ¬ C k ∧ ¬ Z k ∧ k ≠ gr) ∧
  DiskAt W M' C' g' D' ∧ (∀ k, M' k → ¬ Z k ∧ w0.heap.size ≤ k) ∧ ∀ k ∈ ps, ¬ M' k ∧ ¬ C' k
theorem Mid.ext0 {g' : Nat} {D' : DS} (h : Mid w0 ps g D gr Dr g' D' W) (hx : Ext None_ W W') : Mid w0 ps g D gr Dr g' D' W' := by
  obtain ⟨M, C, Z, M', C', h1, h2, h3, h4, h5, h6, h7, h8, h9, h10⟩ := h
  exact ⟨M, C, Z, M', C', h1.ext0 hx, h2.ext0 hx, h3, h4, h5, h6.trans0 hx, fun k hk => ⟨Nat.lt_of_lt_of_le (h7 k hk).1 hx.size, (h7 k hk).2⟩, h8.ext0 hx, h9, h10⟩
theorem tp_crash (h : Two w0 ps g D gr Dr W) (keep torn : Int) (hk : I64 keep) (hwl : D.wait.length ≤ 1000) : Calls Try.prog 22 #[.pointer (some ⟨g, 0, none⟩), .int .i64 keep, .int .i64 torn] W fun e w' => ∃ g', e = .returned (.pointer (some ⟨g', 0, none⟩)) ∧ Mid w0 ps g D gr Dr g' (crashD D keep torn) w' ∧ Ext None_ W w' := by
  obtain ⟨M, C, Z, h1, h2, h3, h4, h5, h6, h7⟩ := h
  refine (DCrash_any g D M C keep torn W h1 hk (by omega)).mono fun e w' ⟨g', k1, ⟨M', C', k2, k3, k4⟩, k5⟩ => ⟨g', k1, ⟨M, C, Z, M', C', h1.ext0 k5, h2.ext0 k5, h3, h4, h5, h6.trans0 k5, fun k hk => ⟨Nat.lt_of_lt_of_le (h7 k hk).1 k5.size, (h7 k hk).2⟩, k2, fun k hk => ⟨fun hz => by have := h2.at_.zlt k hz; have := k3 k hk; omega, by have := k3 k hk; have := h6.size; omega⟩, fun k hk => ⟨fun e => by have := (h7 k hk).1; have := k3 k e; omega, fun e => ?_⟩⟩, k5⟩
  rcases k4 k e with e | e
  · exact (h7 k hk).2.2.1 e
  · have := (h7 k hk).1; omega
theorem tp_wipe (h : Two w0 ps g D gr Dr W) : Calls Try.prog 61 #[.pointer (some ⟨g, 0, none⟩)] W fun e w' => ∃ g', e = .returned (.pointer (some ⟨g', 0, none⟩)) ∧ Mid w0 ps g D gr Dr g' (emptyD D.quota) w' ∧ Ext None_ W w' := by
  obtain ⟨M, C, Z, h1, h2, h3, h4, h5, h6, h7⟩ := h
  exact (DWipe_any g D M C W h1).mono fun e w' ⟨g', k1, k2, k5⟩ => ⟨g', k1, ⟨M, C, Z, _, _, h1.ext0 k5, h2.ext0 k5, h3, h4, h5, h6.trans0 k5, fun k hk => ⟨Nat.lt_of_lt_of_le (h7 k hk).1 k5.size, (h7 k hk).2⟩, k2, fun k hk => ⟨fun hz => by have := h2.at_.zlt k hz; have := hk.1; omega, by have := hk.1; have := h6.size; omega⟩, fun k hk => ⟨fun e => by have := (h7 k hk).1; have := e.1; omega, fun e => e.elim⟩⟩, k5⟩
theorem both_of {g' g'' : Nat} {D' : DS} {W'' : World} {M C Z M' C' Z'' : Nat → Prop} (h1 : DiskAt W M C g D) (h2 : RD W Z gr Dr) (h3 : ∀ k, M k → ¬ Z k ∧ k ≠ gr ∧ w0.heap.size ≤ k) (h4 : ¬ C gr) (h5 : w0.heap.size ≤ gr) (h6 : Ext None_ w0 W) (h7 : ∀ k ∈ ps, k < W.heap.size ∧ ¬ M k ∧ ¬ C k ∧ ¬ Z k ∧ k ≠ gr) (h8 : DiskAt W M' C' g' D') (h9 : ∀ k, M' k → ¬ Z k ∧ w0.heap.size ≤ k) (h10 : ∀ k ∈ ps, ¬ M' k ∧ ¬ C' k) (hx : Ext None_ W W'') (hr : RD W'' Z'' g'' D') (hz : ∀ k, Z'' k → Z k ∨ W.heap.size ≤ k) (hg : W.heap.size ≤ g'') : Two w0 ps g D gr Dr W'' ∧ Two w0 ps g' D' g'' D' W'' := by
  refine ⟨⟨M, C, Z, h1.ext0 hx, h2.ext0 hx, h3, h4, h5, h6.trans0 hx, fun k hk => ⟨Nat.lt_of_lt_of_le (h7 k hk).1 hx.size, (h7 k hk).2⟩⟩, M', C', Z'', h8.ext0 hx, hr, fun k hk => ⟨fun e => ?_, fun e => by have := h8.mlt k hk; omega, (h9 k hk).2⟩, fun e => by have := h8.clt _ e; omega, by have := h6.size; omega, h6.trans0 hx, fun k hk => ⟨Nat.lt_of_lt_of_le (h7 k hk).1 hx.size, (h10 k hk).1, (h10 k hk).2, fun e => ?_, fun e => by have := (h7 k hk).1; omega⟩⟩
  · rcases hz k e with q | q
    · exact (h9 k hk).1 q
    · have := h8.mlt k hk; omega
  · rcases hz k e with q | q
    · exact (h7 k hk).2.2.2.1 q
    · have := (h7 k hk).1; omega
theorem td_crash {g' : Nat} {D' : DS} (h : Mid w0 ps g D gr Dr g' D' W) (keep torn : Int) (hk : I64 keep) (hD : D' = crashD Dr keep torn) : Calls Try.prog 60 #[.pointer (some ⟨gr, 0, none⟩), .int .i64 keep, .int .i64 torn] W fun e w' => ∃ g'', e = .returned (.pointer (some ⟨g'', 0, none⟩)) ∧ (Two w0 ps g D gr Dr w' ∧ Two w0 ps g' D' g'' D' w') ∧ Ext None_ W w' := by
  obtain ⟨M, C, Z, M', C', h1, h2, h3, h4, h5, h6, h7, h8, h9, h10⟩ := h
  exact (rcrash_any W Z gr Dr keep torn h2 hk (hD ▸ h8.ok)).mono fun e w' ⟨g'', Z'', k1, k2, k3, k4, k5⟩ => ⟨g'', k1, both_of h1 h2 h3 h4 h5 h6 h7 h8 h9 h10 k5 (hD ▸ k2) k3 k4, k5⟩
theorem td_wipe {g' : Nat} {D' : DS} (h : Mid w0 ps g D gr Dr g' D' W) (hD : D' = emptyD Dr.quota) : Calls Try.prog 62 #[.pointer (some ⟨gr, 0, none⟩)] W fun e w' => ∃ g'', e = .returned (.pointer (some ⟨g'', 0, none⟩)) ∧ (Two w0 ps g D gr Dr w' ∧ Two w0 ps g' D' g'' D' w') ∧ Ext None_ W w' := by
  obtain ⟨M, C, Z, M', C', h1, h2, h3, h4, h5, h6, h7, h8, h9, h10⟩ := h
  exact (rwipe_any W Z gr Dr h2).mono fun e w' ⟨g'', k1, k2, k4, k5⟩ => ⟨g'', k1, both_of h1 h2 h3 h4 h5 h6 h7 h8 h9 h10 k5 (hD ▸ k2) (fun k hk => .inr hk.1) k4, k5⟩
/-- Both new. -/
theorem two_new {W1 W2 : World} {q : Int} {M C Z : Nat → Prop} (h1 : DiskAt W1 M C g (emptyD q)) (hM : ∀ k, M k → w0.heap.size ≤ k ∧ k < W1.heap.size) (hC : ∀ k, C k → k < W1.heap.size) (hx1 : Ext None_ w0 W1) (hx2 : Ext None_ W1 W2) (h2 : RD W2 Z gr (emptyD q)) (hZ : ∀ k, Z k → W1.heap.size ≤ k) (hg : W1.heap.size ≤ gr) : Two w0 [] g (emptyD q) gr (emptyD q) W2 :=
  ⟨M, C, Z, h1.ext0 hx2, h2, fun k hk => ⟨fun hz => by have := (hM k hk).2; have := hZ k hz; omega, by have := (hM k hk).2; omega, (hM k hk).1⟩, fun h => by have := hC gr h; omega, by have := hx1.size; omega, hx1.trans0 hx2, fun k hk => by simp at hk⟩
/-! ### what both tell -/
set_option maxRecDepth 100000 in
set_option maxHeartbeats 8000000 in
theorem sameD_any (h : Two w0 ps g D gr D W) (f : Int) : Calls Try.prog 33 #[.pointer (some ⟨g, 0, none⟩), .pointer (some ⟨gr, 0, none⟩), .int .i64 f] W fun e w' => e = .returned (.bool true) ∧ Ext None_ W w' := by
  have HI := Lib.hid h.isD
  obtain ⟨Z, hr⟩ := h.ref
  have HR := Lib.hid hr
  have HL := Lib.hid (read_lenD HI.out f)
  clear h hr
  obtain ⟨l, hl⟩ : ∃ l, l = readF D f := ⟨_, rfl⟩
  have HLE := Lib.hid hl
  rw [← hl] at HL
  obtain ⟨rq, hrq⟩ : ∃ x : Int, x = D.quota - heldN D.files := ⟨_, rfl⟩
  have HRQ := Lib.hid hrq
  obtain ⟨sz, hsz⟩ : ∃ x : Nat, x = (if inF f = true then (fileAt D.files f).length else 0) := ⟨_, rfl⟩
  have HSZ := Lib.hid hsz
  obtain ⟨bo, hbo⟩ : ∃ x : Bool, x = D.off := ⟨_, rfl⟩
  have HBO := Lib.hid hbo
  obtain ⟨wl, hwl⟩ : ∃ x : Nat, x = D.wait.length := ⟨_, rfl⟩
  have HWL := Lib.hid hwl
  clear hl hrq hsz hbo hwl
  go_enter Try.func33, Try.ntmps33
  go_wp2_with fail
  refine (is_read HI.out f).mono ?_
  rintro e w1 ⟨A1, c1, rfl, r1, _, _, _, x1⟩
  rw [← HLE.out] at r1 ⊢
  have R1 := Lib.hid r1
  have X1 := Lib.hid x1
  clear r1 x1
  go_wp2_with fail
  refine (rread_any w1 Z gr D f (HR.out.ext0 X1.out)).mono ?_
  rintro e w2 ⟨A2, c2, rfl, r2, x2⟩
  rw [← HLE.out] at r2 ⊢
  have R2 := Lib.hid r2
  have R1 := Lib.hid (R1.out.ext0 x2)
  have X2 := Lib.hid (X1.out.trans0 x2)
  clear r2 x2 X1
  go_wp2_with fail
  refine (same_any A1 c1 l A2 c2 l w2 R1.out R2.out HL.out HL.out).mono ?_
  rintro e w3 ⟨rfl, x3⟩
  have X3 := Lib.hid (X2.out.trans0 x3)
  have hll : decide (l = l) = true := by simp
  rw [hll]
  clear x3 X2 R1 R2 hll
  go_wp2_with fail
  obtain ⟨M, C, hd⟩ := id (HI.out.ext0 X3.out)
  refine (DSize_any g D M C f w3 hd).mono ?_
  rintro e w4 ⟨rfl, x4⟩
  rw [← HSZ.out]
  have X4 := Lib.hid (X3.out.trans0 x4)
  clear hd x4 X3
  go_wp2_with fail
  refine (rsize_any w4 Z gr D f (HR.out.ext0 X4.out)).mono ?_
  rintro e w5 ⟨rfl, x5⟩
  rw [← HSZ.out]
  have X5 := Lib.hid (X4.out.trans0 x5)
  clear x5 X4
  go_wp2_with fail
  refine (is_room (HI.out.ext0 X5.out)).mono ?_
  rintro e w6 ⟨rfl, x6⟩
  rw [← HRQ.out]
  have X6 := Lib.hid (X5.out.trans0 x6)
  clear x6 X5
  go_wp2_with fail
  refine (rroom_any w6 Z gr D (HR.out.ext0 X6.out)).mono ?_
  rintro e w7 ⟨rfl, x7⟩
  rw [← HRQ.out]
  have X7 := Lib.hid (X6.out.trans0 x7)
  clear x7 X6
  go_wp2_with fail
  refine (is_off (HI.out.ext0 X7.out)).mono ?_
  rintro e w8 ⟨rfl, x8⟩
  rw [← HBO.out]
  have X8 := Lib.hid (X7.out.trans0 x8)
  clear x8 X7
  go_wp2_with fail
  refine (roff_any w8 Z gr D (HR.out.ext0 X8.out).at_).mono ?_
  rintro e w9 ⟨rfl, x9⟩
  rw [← HBO.out]
  have X9 := Lib.hid (X8.out.trans0 x9)
  clear x9 X8
  go_wp2_with fail
  refine (is_waiting (HI.out.ext0 X9.out)).mono ?_
  rintro e w10 ⟨rfl, x10⟩
  rw [← HWL.out]
  have X10 := Lib.hid (X9.out.trans0 x10)
  clear x10 X9
  go_wp2_with fail
  refine (rwaiting_any w10 Z gr D (HR.out.ext0 X10.out).at_).mono ?_
  rintro e w11 ⟨rfl, x11⟩
  rw [← HWL.out]
  have X11 := Lib.hid (X10.out.trans0 x11)
  clear x11 X10
  go_wp2_with fail
  go_ret
  exact ⟨by simp, X11.out⟩
end
end Go.Proofs.Ytakcdmmniaipeaa
