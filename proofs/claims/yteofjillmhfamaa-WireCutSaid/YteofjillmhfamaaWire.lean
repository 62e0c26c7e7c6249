/- Package wire, walked: what each function answers, and what becomes of memory. -/
import Derived.Test.YteofjillmhfamaaProg
import Derived.Test.YteofjillmhfamaaBase
import Derived.Test.YteofjillmhfamaaSpec3
import Derived.Outline
import Derived.KernelRfl
import Derived.Deep.QuietTactic
import Derived.BigQuiet
import Derived.Deep.RegionHeld3
import Derived.Deep.DeepMust
set_option linter.unusedVariables false
set_option linter.unusedSimpArgs false
namespace Go.Proofs.Yteofjillmhfamaa
open Go.RowKit B
theorem infoU8 : (Try.prog.info? 5).map (fun i => (i.zero, i.size, i.bytes)) = some (some (.int .u8 0), 1, 1) := by kernel_rfl
def B8 (l : List Int) : List Value := l.map (Value.int .u8)
theorem B8_length (l : List Int) : (B8 l).length = l.length := by simp [B8]
theorem B8_append (l m : List Int) : B8 (l ++ m) = B8 l ++ B8 m := by simp [B8]
theorem B8_one (l : List Int) : ∀ u ∈ B8 l, u.oneCell' = true := by
  intro u hu
  obtain ⟨x, _, rfl⟩ := List.mem_map.1 hu
  rfl
theorem ret_ {k : IntKind} {a b : Int} (h : a = b) : Ending.returned (.int k a) = .returned (.int k b) := by rw [h]
theorem zig_any (n : Int) (w : World) (h : I64 n) : Calls Try.prog 52 #[.int .i64 n] w fun e w' => e = .returned (.int .u64 (zig n : Nat)) ∧ w = w' := by
  have hz := Lib.hid (zig_eq n h)
  go_enter Try.func52, Try.ntmps52
  go_wp2
  go_ret
  exact ⟨ret_ hz.out, rfl⟩
theorem zag_any (u : Nat) (w : World) (h : u < 18446744073709551616) : Calls Try.prog 53 #[.int .u64 (u : Nat)] w fun e w' => e = .returned (.int .i64 (zag u)) ∧ w = w' := by
  have hz : Hid (Go.bits .xor .i64 ((u : Int) / 2) (wrap64 (-wrap64 (Go.bits .and .u64 (u : Int) 1))) = zag u) := Lib.hid (by have := zag_eq u h; rwa [pw_wrap64 ((u : Int) / 2) (by omega) (by omega)] at this)
  go_enter Try.func53, Try.ntmps53
  go_wp2
  go_ret
  exact ⟨ret_ hz.out, rfl⟩
/-- A row of bytes of the call's own. -/
def OwnB (w : World) (ok : Nat → Prop) (v : Value) (l : List Int) : Prop := Own w 5 1 ok v l.length (B8 l)
theorem OwnB.mono {w : World} {ok ok1 : Nat → Prop} {v : Value} {l : List Int} (h : OwnB w ok v l) (hk : ∀ k, k < w.heap.size → ok k → ok1 k) : OwnB w ok1 v l := Own.mono h hk
theorem OwnB.ext {S : Nat → Prop} {w w1 : World} {ok : Nat → Prop} {v : Value} {l : List Int} (h : OwnB w ok v l) (he : Ext S w w1) (hn : ∀ k, v.ownBlock = some k → ¬ S k) : OwnB w1 ok v l := Own.ext h he hn
theorem OwnB.ext0 {w w1 : World} {ok : Nat → Prop} {v : Value} {l : List Int} (h : OwnB w ok v l) (he : Ext None_ w w1) : OwnB w1 ok v l := Own.ext0 h he
theorem OwnB.alloc {w : World} {ok : Nat → Prop} {v : Value} {l : List Int} (h : OwnB w ok v l) (o : Obj) : OwnB (w.alloc o) ok v l := Own.alloc h o
theorem OwnB.nil (w : World) (ok : Nat → Prop) : OwnB w ok (.slice none 0 0) [] := Own.nil _ _ _ _
/-- Whatever the own block is, it is one of these: the old one, or one that is newer than some place. -/
def From (v : Value) (m : Nat) : Nat → Prop := fun k => v.ownBlock = some k ∨ m ≤ k
def Of (v : Value) : Nat → Prop := fun k => v.ownBlock = some k
theorem app8 {w : World} {ops : Array Oper} {rest : List Oper} {o : Oper} {a : Act} {Q : Exit → Act → World → Prop} (hgd : o.guard = none) (s x : Operand)
    (ho : o.op = .call { callee := .builtin .append, args := #[s, x], argTypes := #[23, 23] })
    (v : Value) (l m : List Int) (A : Option Addr) (c : Nat) (hs : a.eval s = v) (hx : a.eval x = .slice A m.length c) {ok : Nat → Prop} (hown : OwnB w ok v l) (hnews : Row w A (B8 m))
    (hlen : l.length + m.length ≤ 225000000000000)
    (h : ∀ v' w', OwnB w' (From v w.heap.size) v' (l ++ m) → Ext (Of v) w w' → wpList Try.prog ops Q rest (a.put o.dst v') w') : wpList Try.prog ops Q (o :: rest) a w :=
  app hgd s x 23 ho 5 (.int .u8 0) 1 1 Try.underlying23 infoU8 rfl (by decide) (by decide) ok v l.length (B8 l) hs hown A m.length c (B8 m) hx (by rw [B8_length, Nat.mul_one]) hnews (B8_one _) (by omega)
    fun v' w' h1 h2 => h v' w' (by unfold OwnB; rw [B8_append, List.length_append]; exact h1) h2
theorem From.le {v : Value} {m m' k : Nat} (h : From v m k) (hm : m' ≤ m) : From v m' k := h.imp id (Nat.le_trans hm)
theorem From.of {v v1 : Value} {m m' k : Nat} (hm : m' ≤ m) (hv : ∀ k, v1.ownBlock = some k → From v m' k) (h : From v1 m k) : From v m' k := by
  rcases h with h | h
  · exact hv k h
  · exact .inr (Nat.le_trans hm h)
theorem Own.from {w : World} {e size n : Nat} {ok : Nat → Prop} {v : Value} {vs : List Value} (h : Own w e size ok v n vs) (m : Nat) : Own w e size (From v m) v n vs := ⟨h.own, fun k e => .inl e⟩
theorem OwnB.from {w : World} {ok : Nat → Prop} {v : Value} {l : List Int} (h : OwnB w ok v l) (m : Nat) : OwnB w (From v m) v l := Own.from h m
/-- one more step behind 'From' and 'Of' -/
theorem OwnB.step {w w1 w2 : World} {v v1 v2 : Value} {l l2 : List Int} (h1 : OwnB w1 (From v w.heap.size) v1 l) (hx : Ext (Of v) w w1) (h2 : OwnB w2 (From v1 w1.heap.size) v2 l2) : OwnB w2 (From v w.heap.size) v2 l2 :=
  OwnB.mono h2 (fun k _ hk => From.of hx.size h1.blk hk)
theorem ext_step {w w1 w2 : World} {v v1 : Value} {l : List Int} (h1 : OwnB w1 (From v w.heap.size) v1 l) (hx : Ext (Of v) w w1) (h2 : Ext (Of v1) w1 w2) : Ext (Of v) w w2 :=
  hx.trans h2 (fun k hk hq => by
    rcases h1.blk k hq with a | a
    · exact a
    · omega)

set_option maxRecDepth 100000 in
theorem put_any (v : Value) (n : Int) (l : List Int) (w : World) (ok : Nat → Prop) (hn : I64 n) (hown : OwnB w ok v l) (hlen : l.length + 10 ≤ 225000000000000) :
    Calls Try.prog 33 #[v, .int .i64 n] w fun e w' => ∃ v', e = .returned v' ∧ OwnB w' (From v w.heap.size) v' (l ++ enc n) ∧ Ext (Of v) w w' := by
  have HO := Lib.hid hown
  clear hown
  have HZ := Lib.hid (zig_lt n hn)
  obtain ⟨E, hE⟩ : ∃ E, E = enc n := ⟨_, rfl⟩
  have HEL : E.length ≤ 10 := by rw [hE]; exact (enc_length n).2
  rw [← hE]
  have HG := Lib.hid hE
  clear hE
  go_enter Try.func33, Try.ntmps33
  go_wp2_with (go_at_call 52; refine (zig_any _ _ hn).mono ?_; rintro e w' ⟨rfl, rfl⟩)
  go_loopw [0, 5] (fun v0 v5 wr => ∃ (u : Nat) (done : List Int), v5 = .int .u64 u ∧ Hid (u < 18446744073709551616) ∧ Hid (E = done ++ grp u) ∧ Hid (OwnB wr (From v w.heap.size) v0 (l ++ done)) ∧ Hid (Ext (Of v) w wr)) (fun _ v5 _ => (intOf v5).toNat)
  case atStart => exact ⟨zig n, [], rfl, HZ, Lib.hid HG.out, Lib.hid (by simpa using HO.out.from _), Lib.hid (Ext.refl _ _)⟩
  case round =>
    obtain ⟨u, done, rfl, hu, hE, ho, hx⟩ := hrel
    have HL : (l ++ done).length + 1 ≤ 225000000000000 := by
      have h1 : E.length = done.length + (grp u).length := by rw [hE.out, List.length_append]
      have h2 := (grp_length u).1
      rw [List.length_append]
      omega
    have ho2 := fun o => Lib.hid (ho.out.alloc o)
    have hx2 := fun o => Lib.hid (hx.out.alloc o)
    by_cases h128 : 128 ≤ u
    · have hor : Go.bits .or .u8 ((u : Int) % 256) 128 = ((u % 128 + 128 : Nat) : Int) := by rw [or8_128 _ (by omega) (by omega)]; omega
      go_wp2_with (at_builtin; refine app8 rfl (.tmp 10) (.tmp 14) rfl u0 _ [((u % 128 + 128 : Nat) : Int)] _ _ rfl rfl (ho2 _).out (Blk.new _ _ _).row HL ?_; intro v1 w1 ho1 hx1; have HO1 := Lib.hid (OwnB.step (ho2 _).out (hx2 _).out ho1); have HX1 := Lib.hid (ext_step (ho2 _).out (hx2 _).out hx1); clear ho1 hx1)
      go_roundw
      case rel =>
        refine ⟨u / 128, done ++ [((u % 128 + 128 : Nat) : Int)], by go_num, Lib.hid (by have := hu.out; omega), Lib.hid ?_, Lib.hid ?_, HX1⟩
        · rw [List.append_assoc, List.singleton_append, ← grp_ge u (by omega) hu.out]; exact hE.out
        · rw [← List.append_assoc]
          exact HO1.out
      case measure => simp [intOf]; omega
    · have hlt : u < 128 := by omega
      go_wp2_with (at_builtin; refine app8 rfl (.tmp 18) (.tmp 21) rfl u0 _ [((u : Nat) : Int)] _ _ rfl rfl (ho2 _).out (Blk.new _ _ _).row HL ?_; intro v1 w1 ho1 hx1; have HO1 := Lib.hid (OwnB.step (ho2 _).out (hx2 _).out ho1); have HX1 := Lib.hid (ext_step (ho2 _).out (hx2 _).out hx1); clear ho1 hx1)
      go_ret
      refine ⟨_, rfl, ?_, HX1.out⟩
      rw [hE.out, grp_lt u hlt, ← List.append_assoc]
      exact HO1.out

theorem again_any (A : Option Addr) (c : Nat) (l : List Int) (m : Nat) (w : World) (hrow : Row w A (B8 l)) (hlen : l.length + m ≤ 225000000000000) :
    Calls Try.prog 34 #[.slice A l.length c, .int .i64 m] w fun e w' => ∃ v', e = .returned v' ∧ OwnB w' (fun k => w.heap.size ≤ k) v' l ∧ Ext None_ w w' ∧ w.heap.size < w'.heap.size := by
  have HR := Lib.hid hrow
  clear hrow
  obtain ⟨i0, hi, hz0, hz1, hz2⟩ := info_parts infoU8
  have hmk : ∀ W : World, (Instr.makeSlice 23 (.int .i64 0) (.int .i64 ((l.length : Int) + m))).run Try.prog W = .ok (.slice (some ⟨W.heap.size, 0, none⟩) 0 (l.length + m)) (W.alloc (.cells (madeCells (Value.int .u8 0).cells ((l.length + m) * 1)) 5)) := by
    intro W
    have hr := run_make (P := Try.prog) W 23 5 i0 (.int .u8 0) Try.underlying23 hi hz0 .i64 .i64 0 ((l.length : Int) + m) (by omega) (by omega) (by rw [hz2]; omega) (by omega)
    rw [hz1, show ((l.length : Int) + m).toNat = l.length + m by omega] at hr
    exact hr
  clear hi hz0 hz1 hz2 i0
  have HM : ∀ W : World, Hid (OwnB (W.alloc (.cells (madeCells #[Value.int .u8 0] (l.length + m)) 5)) (fun k => k = W.heap.size) (.slice (some ⟨W.heap.size, 0, none⟩) 0 (l.length + m)) []) := fun W => Lib.hid (Own.made W _ _ (by simp only [maxLen]; omega) (by simp [size_madeCells]))
  go_enter Try.func34, Try.ntmps34
  go_wp2_with (at_builtin; refine app8 rfl (.tmp 11) (.tmp 12) rfl (.slice (some ⟨w.heap.size, 0, none⟩) 0 (l.length + m)) [] l A c rfl rfl (HM w).out (HR.out.ext0 ((Ext.refl _ _).alloc _)) (by simp; omega) ?_; intro v1 w1 ho1 hx1; have HO1 := Lib.hid ho1; have HX1 := Lib.hid hx1; clear ho1 hx1 hmk)
  go_ret
  refine ⟨_, rfl, ?_, ((Ext.refl None_ w).alloc _).trans HX1.out (fun k hk h => ?_), by have := HX1.out.size; simp at this; omega⟩
  · refine OwnB.mono HO1.out (fun k _ hk => ?_)
    rcases hk with hk | hk
    · simp [Value.ownBlock] at hk; omega
    · simp at hk; omega
  · simp [Of, Value.ownBlock] at h
    omega
/-! ### the reader -/
def Rd (w : World) (g b : Nat) (l : List Int) (s : RS) : Prop :=
  ∃ A c, Blk w g #[.int .i64 s.fa, .int .i64 s.fe, .slice A l.length c, .int .i64 s.pos] 55 ∧ l.length ≤ c ∧ Row w A (B8 l) ∧ (∀ ad, A = some ad → ad.block = b) ∧ (b ≠ g ∧ b < w.heap.size) ∧ Byt l ∧ s.pos ≤ l.length ∧ l.length ≤ 225000000000000
theorem Rd.ext {S : Nat → Prop} {w w1 : World} {g b : Nat} {l : List Int} {s : RS} (h : Rd w g b l s) (he : Ext S w w1) (hg : ¬ S g) (hb : ¬ S b) : Rd w1 g b l s := by
  obtain ⟨A, c, h1, h2, h3, h4, h5, h6⟩ := h
  exact ⟨A, c, h1.ext he hg, h2, h3.ext he (fun ad e => by rw [h4 ad e]; exact hb), h4, ⟨h5.1, Nat.lt_of_lt_of_le h5.2 he.size⟩, h6⟩
theorem Rd.ext0 {w w1 : World} {g b : Nat} {l : List Int} {s : RS} (h : Rd w g b l s) (he : Ext None_ w w1) : Rd w1 g b l s := h.ext he (fun a => a) (fun a => a)
theorem fail_any (g b : Nat) (l : List Int) (s : RS) (p : Nat) (e : Int) (w : World) (h : Rd w g b l s) (hp : p ≤ l.length) :
    Calls Try.prog 45 #[.pointer (some ⟨g, 0, none⟩), .int .i64 p, .int .i64 e] w fun e' w' => e' = .returned (.tuple #[]) ∧ Rd w' g b l ⟨p, p, e⟩ ∧ Ext (fun k => k = g) w w' := by
  obtain ⟨A, c, h1, h2, h3, h4, h5, h6, h7, h8⟩ := h
  have HB := Lib.hid h1
  have h10 := h1.cell 0
  have h11 := h1.cell 1
  have h13 := h1.cell 3
  have hf := h1.frozen
  simp only [List.getElem?_toArray, List.getElem?_cons_zero, List.getElem?_cons_succ] at h10 h11 h13
  have H3 := Lib.hid h3
  have H4 := Lib.hid h4
  clear h1 h3 h4
  go_enter Try.func45, Try.ntmps45
  go_wp2
  go_end0
  have hx := (((Ext.refl (fun k => k = g) w).setCell (p := ⟨g, 0, none⟩) (.inl rfl) (.int .i64 p)).setCell (p := ⟨g, 1, none⟩) (.inl rfl) (.int .i64 e)).setCell (p := ⟨g, 3, none⟩) (.inl rfl) (.int .i64 p)
  exact ⟨rfl, ⟨A, c, ((HB.out.set 0 _).set 1 _).set 3 _, h2, H3.out.ext hx (fun ad e' => by rw [H4.out ad e']; exact h5.1), H4.out, ⟨h5.1, Nat.lt_of_lt_of_le h5.2 hx.size⟩, h6, hp, h8⟩, hx⟩

theorem Rd.cells {w : World} {g b : Nat} {l : List Int} {s : RS} (h : Rd w g b l s) : ∃ A c, (w.cell? ⟨g, 0, none⟩ = some (.int .i64 s.fa) ∧ w.cell? ⟨g, 1, none⟩ = some (.int .i64 s.fe) ∧ w.cell? ⟨g, 2, none⟩ = some (.slice A l.length c) ∧ w.cell? ⟨g, 3, none⟩ = some (.int .i64 s.pos)) ∧ (∀ i, w.frozen? ⟨g, i, none⟩ = false) ∧ l.length ≤ c ∧ Row w A (B8 l) := by
  obtain ⟨A, c, h1, h2, h3, _⟩ := h
  exact ⟨A, c, ⟨h1.cell 0, h1.cell 1, h1.cell 2, h1.cell 3⟩, h1.frozen, h2, h3⟩
theorem Rd.lt {w : World} {g b : Nat} {l : List Int} {s : RS} (h : Rd w g b l s) : g < w.heap.size ∧ b < w.heap.size ∧ b ≠ g := by
  obtain ⟨A, c, h1, _, _, _, h5, _⟩ := h
  exact ⟨h1.lt, h5.2, h5.1⟩
theorem Rd.bounds {w : World} {g b : Nat} {l : List Int} {s : RS} (h : Rd w g b l s) : s.pos ≤ l.length ∧ l.length ≤ 225000000000000 ∧ Byt l := by
  obtain ⟨A, c, _, _, _, _, _, h6, h7, h8⟩ := h
  exact ⟨h7, h8, h6⟩
theorem Rd.drewN {w : World} {g b : Nat} {l : List Int} {s : RS} (h : Rd w g b l s) (n : Nat) : Rd (w.drewN n) g b l s := h.ext0 ((Ext.refl _ _).drewN n)
set_option maxRecDepth 100000 in
set_option maxHeartbeats 2000000 in
theorem num_any (g b : Nat) (l : List Int) (s : RS) (p : Nat) (w : World) (h : Rd w g b l s) (hp : p ≤ l.length) :
    Calls Try.prog 44 #[.pointer (some ⟨g, 0, none⟩), .int .i64 p] w fun e w' => e = .returned (.int .i64 (numR l p s).1) ∧ Rd w' g b l (numR l p s).2 ∧ Ext (fun k => k = g) w w' := by
  have HR := Lib.hid h
  clear h
  go_enter Try.func44, Try.ntmps44
  go_wp2
  go_loopw [5, 6, 7] (fun v5 v6 _ wr => ∃ (u k : Nat), v5 = .int .u64 u ∧ v6 = .int .i64 k ∧ k ≤ 9 ∧ Hid (u < 2 ^ (7 * k)) ∧ Hid (scan (l.drop s.pos) 0 0 = scan (l.drop (s.pos + k)) k u) ∧ Hid (Rd wr g b l ⟨s.pos + k, s.fa, s.fe⟩) ∧ Hid (Ext (fun k => k = g) w wr)) (fun _ v6 _ _ => 10 - (intOf v6).toNat)
  case atStart => exact ⟨0, 0, rfl, rfl, by omega, Lib.hid (by decide), Lib.hid rfl, Lib.hid HR.out, Lib.hid (Ext.refl _ _)⟩
  case round =>
    obtain ⟨u, k, rfl, rfl, hk, hu, hsc, hr, hx⟩ := hrel
    obtain ⟨A, c, h1, h2, h3, h4, h5, h6, h7, h8⟩ := hr.out
    have h10 := h1.cell 0
    have h11 := h1.cell 1
    have h12 := h1.cell 2
    have h13 := h1.cell 3
    have hf := h1.frozen
    simp only [List.getElem?_toArray, List.getElem?_cons_zero, List.getElem?_cons_succ] at h10 h11 h12 h13
    have HB := Lib.hid h1
    have H3 := Lib.hid h3
    have H4 := Lib.hid h4
    have H6 := Lib.hid h6
    simp only at h7
    clear h1 h3 h4 h6
    by_cases hend : s.pos + k = l.length
    · have HD : Hid (l.drop (s.pos + k) = []) := Lib.hid (by rw [hend]; simp)
      go_wp2
      go_quiet (fail)
      go_wp2_with (go_at_call 45; refine (fail_any g b l _ p 3 _ (hr.out.drewN _) hp).mono ?_; rintro e w1 ⟨rfl, hr1, hx1⟩; have HR1 := Lib.hid hr1; have HX1 := Lib.hid hx1; clear hr1 hx1)
      go_ret
      rw [numR_bad (by rw [hsc.out, HD.out, scan_nil])]
      exact ⟨rfl, HR1.out, (hx.out.drewN _).trans HX1.out (fun _ _ a => a)⟩
    · have hlt : s.pos + k < l.length := by omega
      obtain ⟨x, hxe⟩ : ∃ x, x = l[s.pos + k] := ⟨_, rfl⟩
      have hx0 := H6.out x (by rw [hxe]; exact List.getElem_mem _)
      have HD : Hid (l.drop (s.pos + k) = x :: l.drop (s.pos + k + 1)) := Lib.hid (by rw [hxe]; exact List.drop_eq_getElem_cons hlt)
      obtain ⟨ad, rfl⟩ := H3.out.some (by rw [B8_length]; omega)
      have hc : wr.cell? (ad.add (s.pos + k)) = some (.int .u8 x) := by
        have := H3.out.at_ (i := s.pos + k) (by rw [B8_length]; exact hlt)
        rw [this, hxe]
        simp [B8]
      have HXE := Lib.hid hxe
      clear hxe
      have hand : Go.bits .and .u8 x 127 = x % 128 := and8_127 x hx0.1 hx0.2
      obtain ⟨hx1, hx2⟩ := hx0
      have HS : ∀ m, Hid (Rd ((wr.drewN m).setCell ⟨g, 3, none⟩ (.int .i64 ((s.pos : Int) + k + 1))) g b l ⟨s.pos + (k + 1), s.fa, s.fe⟩) := fun m => by
        have hx := ((Ext.refl (fun k => k = g) wr).drewN m).setCell (p := ⟨g, 3, none⟩) (.inl rfl) (.int .i64 ((s.pos : Int) + k + 1))
        refine Lib.hid ⟨some ad, c, ?_, h2, H3.out.ext hx (fun ad e' => by rw [H4.out ad e']; exact h5.1), H4.out, ⟨h5.1, Nat.lt_of_lt_of_le h5.2 hx.size⟩, H6.out, by simp only; omega, h8⟩
        have := (HB.out.drewN m).set 3 (.int .i64 ((s.pos : Int) + k + 1))
        rw [show ((s.pos : Int) + k + 1) = ((s.pos + (k + 1) : Nat) : Int) by omega] at this ⊢
        exact this
      have HX : ∀ m, Hid (Ext (fun k => k = g) w ((wr.drewN m).setCell ⟨g, 3, none⟩ (.int .i64 ((s.pos : Int) + k + 1)))) := fun m => Lib.hid ((hx.out.drewN m).setCell (p := ⟨g, 3, none⟩) (.inl rfl) _)
      by_cases hbad : k = 9 ∧ 1 < x
      · obtain ⟨hk9, hx9⟩ := hbad
        have HE : Hid (scan (l.drop s.pos) 0 0 = .bad 4) := Lib.hid (by rw [hsc.out, HD.out, scan_cons, if_pos ⟨hk9, hx9⟩])
        have hb9 : ((k : Int) == 9) = true := by simp; omega
        clear hk9
        go_wp2
        go_quiet (fail)
        go_wp2
        go_quiet (fail)
        go_wp2_with (go_at_call 45; refine (fail_any g b l _ p 4 _ (hr.out.drewN _) hp).mono ?_; rintro e w1 ⟨rfl, hr1, hx1⟩; have HR1 := Lib.hid hr1; have HX1 := Lib.hid hx1; clear hr1 hx1)
        go_ret
        rw [numR_bad HE.out]
        exact ⟨rfl, HR1.out, (hx.out.drewN _).trans HX1.out (fun _ _ a => a)⟩
      · obtain ⟨hor, hlt64⟩ := or_group x u k hx1 hx2 hu.out hk (fun e => by by_cases h : 1 < x; exact absurd ⟨e, h⟩ hbad; omega)
        have HG := Lib.hid (group_lt x u k hx1 hu.out)
        have HOR := Lib.hid hor
        have HL := Lib.hid hlt64
        clear hor hlt64
        by_cases h128 : 128 ≤ x
        · have hb9 : ((k : Int) == 9) = false := by
            have : k ≠ 9 := fun e => hbad ⟨e, by omega⟩
            simp
            omega
          have HN : Hid (scan (l.drop s.pos) 0 0 = scan (l.drop (s.pos + (k + 1))) (k + 1) (u + (x % 128).toNat * 2 ^ (7 * k))) := Lib.hid (by rw [hsc.out, HD.out, scan_cons, if_neg hbad, if_pos h128, Nat.add_assoc])
          go_wp2
          go_quiet (fail)
          go_wp2
          go_quiet (fail)
          go_wp2
          refine ⟨⟨_, k + 1, by rw [HOR.out], by go_num, ?_, HG, HN, HS _, HX _⟩, ?_⟩
          · by_cases e : k = 9
            · exact absurd ⟨e, by omega⟩ hbad
            · omega
          · simp [intOf]; omega
        · by_cases hz : x = 0 ∧ 0 < k
          · obtain ⟨hz1, hz2⟩ := hz
            have HE : Hid (scan (l.drop s.pos) 0 0 = .bad 4) := Lib.hid (by rw [hsc.out, HD.out, scan_cons, if_neg hbad, if_neg h128, if_pos ⟨hz1, hz2⟩])
            have hbz : (x == 0) = true := by simp; omega
            have h1x : x ≤ 1 := by omega
            have hk0 : (0 : Int) < k := by omega
            clear hz1
            by_cases hk9 : k = 9
            all_goals
              first | have hb9 : ((k : Int) == 9) = true := (by simp; omega) | have hb9 : ((k : Int) == 9) = false := (by simp; omega)
              clear hk9
              go_wp2
              go_quiet (fail)
              go_wp2
              go_quiet (fail)
              go_wp2_with (go_at_call 45; refine (fail_any g b l _ p 4 _ (HS _).out hp).mono ?_; rintro e w1 ⟨rfl, hr1, hx1⟩; have HR1 := Lib.hid hr1; have HX1 := Lib.hid hx1; clear hr1 hx1)
              go_ret
              rw [numR_bad HE.out]
              exact ⟨rfl, HR1.out, (HX _).out.trans HX1.out (fun _ _ a => a)⟩
          · have HE : Hid (scan (l.drop s.pos) 0 0 = .ok (k + 1) (u + (x % 128).toNat * 2 ^ (7 * k))) := Lib.hid (by rw [hsc.out, HD.out, scan_cons, if_neg hbad, if_neg h128, if_neg hz])
            have hno : k = 9 → x ≤ 1 := fun e => by
              by_cases h : 1 < x
              · exact absurd ⟨e, h⟩ hbad
              · omega
            by_cases hk9 : k = 9
            all_goals
              first | (have h1x : x ≤ 1 := hno hk9) | skip
              first | have hb9 : ((k : Int) == 9) = true := (by simp; omega) | have hb9 : ((k : Int) == 9) = false := (by simp; omega)
              clear hno hk9 hbad
              by_cases hx0 : x = 0
              all_goals
                first | (have hk0 : (k : Int) ≤ 0 := by (have : ¬ 0 < k := fun h => hz ⟨hx0, h⟩); omega) | skip
                first | have hbz : (x == 0) = true := (by simp; omega) | have hbz : (x == 0) = false := (by simp; omega)
                clear hz hx0
                go_wp2
                go_quiet (fail)
                go_wp2
                go_quiet (fail)
                go_wp2_with (go_at_call 53; rw [HOR.out]; refine (zag_any _ _ HL.out).mono ?_; rintro e w1 ⟨rfl, rfl⟩)
                go_ret
                rw [numR_ok HE.out]
                exact ⟨rfl, (HS _).out, (HX _).out⟩
end Go.Proofs.Yteofjillmhfamaa
