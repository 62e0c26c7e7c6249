/- SumSeals, walked. Written by gen_seals.py. -/
import Derived.Test.YtghkgfeamijefaaBk5
import Derived.Test.YtghkgfeamijefaaSumQ
set_option linter.unusedVariables false
set_option linter.unusedSimpArgs false
namespace Go.Proofs.Ytghkgfeamijefaa
open Go.RowKit B
theorem cut_to0 (k n c m : Nat) (hm : m ≤ c) : ∀ W : World, (Instr.slice 22 (.slice (some ⟨k, 0, none⟩) n c) none (some (.int .i64 m)) none).run Try.prog W = .ok (.slice (some ⟨k, 0, none⟩) m c) W := by
  obtain ⟨A2, h2, h3⟩ := cut_h (P := Try.prog) 22 5 1 Try.underlying22 infoU8 (some ⟨k, 0, none⟩) n c (m : Int) (by omega) (by omega)
  intro W
  rw [h3 W, h2]
  split <;> simp [Addr.add]
theorem le4_val (s : BitVec 32) : val4 (nt s % 256) (nt s / 256 % 256) (nt s / 65536 % 256) (nt s / 16777216) = nt s := by
  have := nt_bounds s
  unfold val4
  omega
/-- What was sealed is opened. -/
theorem open_sealed (l : List Int) : openF (l ++ le4 (sumOf 0#32 l)) = (l, true) := by
  have hl : (l ++ le4 (sumOf 0#32 l)).length = l.length + 4 := by simp [le4]
  have e : v4at (l ++ le4 (sumOf 0#32 l)) l.length = nt (sumOf 0#32 l) := by
    rw [← le4_val (sumOf 0#32 l)]
    unfold v4at
    have r : ∀ i, i < 4 → rd (l ++ le4 (sumOf 0#32 l)) ((l.length : Int) + (i : Nat)) = rd (le4 (sumOf 0#32 l)) (i : Nat) := by
      intro i hi
      unfold rd
      rw [show ((l.length : Int) + (i : Nat)).toNat = l.length + i by omega, Int.toNat_natCast, List.getD_eq_getElem?_getD, List.getElem?_append_right (by omega), List.getD_eq_getElem?_getD]
      simp
    have r0 := r 0 (by omega)
    have r1 := r 1 (by omega)
    have r2 := r 2 (by omega)
    have r3 := r 3 (by omega)
    simp only [Int.natCast_zero, Int.add_zero, Int.natCast_one] at r0 r1
    have c2 : (((2 : Nat) : Int)) = 2 := rfl
    have c3 : (((3 : Nat) : Int)) = 3 := rfl
    rw [c2] at r2
    rw [c3] at r3
    rw [r0, r1, r2, r3]
    rfl
  unfold openF
  rw [if_neg (by omega), hl, show l.length + 4 - 4 = l.length by omega, List.take_left, e, if_pos rfl]
theorem openS (A : Option Addr) (c : Nat) (l : List Int) (w : World) (hrow : Row w A (B8 (l ++ le4 (sumOf 0#32 l)))) (hb : Byt l) (k : Nat) (hk : k = l.length + 4) (hc : k ≤ c) (hlen : k ≤ 140737488355328) :
    Calls Try.prog 37 #[.slice A k c] w fun e w' => ∃ v', e = .returned (.tuple #[v', .bool true]) ∧ OwnB w' (fun k => w.heap.size ≤ k) v' l ∧ Ext None_ w w' := by
  have hl : (l ++ le4 (sumOf 0#32 l)).length = k := by rw [hk]; simp [le4]
  have := open_any A c (l ++ le4 (sumOf 0#32 l)) w hrow (fun x hx => (List.mem_append.1 hx).elim (hb x) (le4_byt _ x)) (by omega) (by omega)
  rw [open_sealed, hl] at this
  exact this
theorem sealS (A : Option Addr) (c : Nat) (l : List Int) (w : World) (hrow : Row w A (B8 l)) (hb : Byt l) (hlen : l.length + 4 ≤ 140737488355328) (k : Nat) (hk : k = l.length + 4) :
    Calls Try.prog 36 #[.slice A l.length c] w fun e w' => ∃ A' c', e = .returned (.slice A' k c') ∧ OwnB w' (fun k => w.heap.size ≤ k) (.slice A' k c') (l ++ le4 (sumOf 0#32 l)) ∧ k ≤ c' ∧ Row w' A' (B8 (l ++ le4 (sumOf 0#32 l))) ∧ Ext None_ w w' := by
  have hl : (l ++ le4 (sumOf 0#32 l)).length = k := by rw [hk]; simp [le4]
  exact (seal_any A c l w hrow hb hlen).mono fun e w' ⟨v, h1, h2, h3⟩ => by
    obtain ⟨A', c', rfl, hc, _, hr⟩ := Own.slice h2
    rw [hl] at h1 h2 hc
    exact ⟨A', c', h1, h2, hc, hr, h3⟩
theorem rsealS (A : Option Addr) (c : Nat) (l : List Int) (w : World) (hrow : Row w A (B8 l)) (hb : Byt l) (hlen : l.length + 4 ≤ 140737488355328) (k : Nat) (hk : k = l.length + 4) :
    Calls Try.prog 38 #[.slice A l.length c] w fun e w' => ∃ A' c', e = .returned (.slice A' k c') ∧ Row w' A' (B8 (l ++ le4 (sumOf 0#32 l))) ∧ Ext None_ w w' := by
  have hl : (l ++ le4 (sumOf 0#32 l)).length = k := by rw [hk]; simp [le4]
  exact (rseal_any A c l w hrow hb hlen).mono fun e w' ⟨v, h1, h2, h3⟩ => by
    obtain ⟨A', c', rfl, hc, _, hr⟩ := Own.slice h2
    rw [hl] at h1
    exact ⟨A', c', h1, hr, h3⟩
theorem OwnB.sl {w : World} {ok : Nat → Prop} {v : Value} {l : List Int} (h : OwnB w ok v l) : ∃ A c, v = .slice A l.length c ∧ l.length ≤ c ∧ Row w A (B8 l) := by
  obtain ⟨A, c, h1, h2, _, h3⟩ := Own.slice h
  exact ⟨A, c, h1, h2, h3⟩
/-- The lists of a book come of a list. -/
def Among (K L : List Kp) : Prop := ∀ x ∈ K, x ∈ L
theorem Among.next {K L : List Kp} (h : Among K L) (x : Kp) (n : Nat) : Among ((K ++ [x]).drop n) (L ++ [x]) := fun y hy => by
  rcases List.mem_append.1 (List.mem_of_mem_drop hy) with h' | h'
  · exact List.mem_append_left _ (h y h')
  · exact List.mem_append_right _ h'
theorem Among.nil (L : List Kp) : Among [] L := fun x hx => by simp at hx
theorem roomyK (A : Option Addr) (c : Nat) (l : List Int) (a : Int) (w : World) (hrow : Row w A (B8 l)) (hlen : l.length + 80 ≤ 140737488355328) :
    Calls Try.prog 35 #[.slice A l.length c, .int .u8 a] w fun e w' => ∃ g, e = .returned (.slice (some ⟨g, 0, none⟩) (l.length + 80) (l.length + 80)) ∧ w.heap.size ≤ g ∧ Blk w' g (B8 (mark80 l a)).toArray 5 ∧ Ext None_ w w' :=
  (roomy_any A c l a w hrow hlen).mono fun e w' ⟨h1, h2, h3⟩ => ⟨_, h1, Nat.le_refl _, h2, h3⟩
theorem full_row {W : World} {g : Nat} {l : List Int} {a : Int} (h : Blk W g (B8 (mark80 l a)).toArray 5) : Row W (some ⟨g, 0, none⟩) (B8 (mark80 l a)) ∧ Row W (some ⟨g, 0, none⟩) (B8 l) := by
  have h1 : Row W (some ⟨g, 0, none⟩) (B8 (mark80 l a)) := by simpa using h.row
  refine ⟨h1, ?_⟩
  have := h1.take l.length
  rwa [show (B8 (mark80 l a)).take l.length = B8 l by simp [B8, mark80, List.map_append]] at this
theorem intactK (g : Nat) (A : Option Addr) (c : Nat) (l : List Int) (a : Int) (w : World) (h1 : Blk w g (B8 (mark80 l a)).toArray 5) (h2 : Row w A (B8 l)) (hl : l.length + 80 ≤ 140737488355328) :
    Calls Try.prog 39 #[.slice (some ⟨g, 0, none⟩) (l.length + 80) (l.length + 80), .slice A l.length c, .int .u8 a] w fun e w' => e = .returned (.bool true) ∧ Ext None_ w w' := by
  have := intact_any (some ⟨g, 0, none⟩) (l.length + 80) (mark80 l a) A c l a w (full_row h1).1 h2 (by rw [mark80_length]; exact Nat.le_refl _) (by rw [mark80_length]; exact hl) (by omega)
  rw [mark80_length] at this
  exact this.mono fun e w' ⟨h3, h4⟩ => ⟨h3.trans (by simp), h4⟩
theorem KeepK (w1 : World) (gb : Nat) (K : List Kp) (A : Option Addr) (c : Nat) (l : List Int) (k : Nat) (hk : l.length = k) (w : World) (hb : BookAt w1 w gb K) (hK : K.length ≤ 4000) (hx : OwnB w1 (fun k => k ≠ gb) (.slice A k c) l) (hl : k ≤ 140737488355328) (hap : ∀ y ∈ K, ∀ q, y.v.ownBlock = some q → ¬ (Value.slice A k c).ownBlock = some q) :
    Calls Try.prog 40 #[.pointer (some ⟨gb, 0, none⟩), .slice A k c] w (KeepP w1 gb (K ++ [Kp.mk (.slice A k c) l])) := by
  subst hk
  exact Keep_any w1 gb K A c l w hb hK hx hl hap
theorem hapOf {K L : List Kp} {v : Value} (h : Among K L) (h2 : ∀ y ∈ L, ∀ q, y.v.ownBlock = some q → ¬ v.ownBlock = some q) : ∀ y ∈ K, ∀ q, y.v.ownBlock = some q → ¬ v.ownBlock = some q := fun y hy => h2 y (h y hy)
theorem extOf {K L : List Kp} {gb q : Nat} {w : World} (h : Among K L) (h2 : ∀ y ∈ L, y.v.ownBlock = some q → w.heap.size ≤ q) (hq : q < w.heap.size) (e : q = gb ∨ ∃ y ∈ K, y.v.ownBlock = some q) (hg : w.heap.size ≤ gb := by omega) : None_ q := by
  rcases e with e | ⟨y, hy, e⟩
  · omega
  · have := h2 y (h y hy) e
    omega
abbrev emptyBook : Array Value := #[.slice none 0 0, .slice none 0 0, .int .i64 0, .bool false]
/-- What SumSeals has made. -/
structure SealF (w W : World) (gb g0 : Nat) (A : Option Addr) (l S : List Int) (n0 n1 n2 n3 n4 : Nat) (vs vt va vb : Value) : Prop where
  ext : Ext None_ w W
  row : Row W A (B8 l)
  bk : Blk W gb emptyBook 61
  full : Blk W g0 (B8 (mark80 l 177)).toArray 5
  s : OwnB W (fun q => n0 ≤ q ∧ q < n1) vs S
  t : OwnB W (fun q => n1 ≤ q ∧ q < n2) vt S
  a : OwnB W (fun q => n2 ≤ q ∧ q < n3) va l
  b : OwnB W (fun q => n3 ≤ q ∧ q < n4) vb l
theorem SealF.ext0 {w W W' : World} {gb g0 : Nat} {A : Option Addr} {l S : List Int} {n0 n1 n2 n3 n4 : Nat} {vs vt va vb : Value} (h : SealF w W gb g0 A l S n0 n1 n2 n3 n4 vs vt va vb) (hx : Ext None_ W W') : SealF w W' gb g0 A l S n0 n1 n2 n3 n4 vs vt va vb :=
  ⟨h.ext.trans0 hx, h.row.ext0 hx, h.bk.ext hx (fun a => a), h.full.ext hx (fun a => a), OwnB.ext0 h.s hx, OwnB.ext0 h.t hx, OwnB.ext0 h.a hx, OwnB.ext0 h.b hx⟩
theorem OwnB.rng {W W' : World} {v : Value} {l : List Int} (h : OwnB W' (fun q => W.heap.size ≤ q) v l) : OwnB W' (fun q => W.heap.size ≤ q ∧ q < W'.heap.size) v l := OwnB.mono h (fun k h1 h2 => ⟨h2, h1⟩)
theorem OwnB.row {w : World} {ok : Nat → Prop} {A : Option Addr} {n c : Nat} {l : List Int} (h : OwnB w ok (.slice A n c) l) : Row w A (B8 l) := own_row h
set_option maxRecDepth 100000 in
set_option maxHeartbeats 16000000 in
theorem SumSeals_any {A : Option Addr} {c : Nat} (l : List Int) {w : World} (hr : Row w A (B8 l)) (hc : l.length ≤ c) (hm : c ≤ 140737488351232) (hb : Byt l) : Calls Try.prog 12 #[.slice A l.length c] w fun e w' => e = .returned (.bool true) ∧ Ext None_ w w' := by
  have HR := Lib.hid hr
  have HB := Lib.hid hb
  have hlen : l.length ≤ 140737488351232 := by omega
  obtain ⟨k, hk⟩ : ∃ k, k = l.length + 4 := ⟨_, rfl⟩
  have hkl : k ≤ 140737488355328 := by omega
  have HK := Lib.hid hk
  obtain ⟨S, hS⟩ : ∃ S, S = l ++ le4 (sumOf 0#32 l) := ⟨_, rfl⟩
  have hSl : S.length = k := by rw [hS, hk]; simp [le4]
  have HSL := Lib.hid hSl
  have HSE := Lib.hid hS
  clear hr hb hk hS hSl
  go_enter Try.func12, Try.ntmps12
  go_wp2_with (first
    | (go_at_call 35; refine (roomyK A c l 177 _ (HR.out.ext0 (x0 _ _)) (by omega)).mono ?_; rintro e w0 ⟨g0, rfl, hg, hblk, hx⟩; have HX0 := Lib.hid ((x0 w _).trans0 hx); have HBK := Lib.hid (Blk.ext (Blk.new w emptyBook 61) hx (fun a => a)); have HFU := Lib.hid hblk; have HCUT := fun W => cut_to0 g0 (l.length + 80) (l.length + 80) l.length (by omega) W; have HGB := Lib.hid (Nat.lt_of_lt_of_le (Nat.lt_succ_self w.heap.size) (by simpa using hg)); have HSZ0 : Hid (w.heap.size < w0.heap.size) := Lib.hid (Nat.lt_of_lt_of_le HGB.out (Nat.le_of_lt hblk.lt)); clear hblk hx hg)
    | (go_at_call 36; refine (sealS (some ⟨g0, 0, none⟩) (l.length + 80) l _ (full_row HFU.out).2 HB.out (by omega) k HK.out).mono ?_; rintro e w1 ⟨As, cs, rfl, ho, hcs, hrs, hx⟩; rw [← HSE.out] at ho; have HO1 := Lib.hid (OwnB.rng ho); have HX1 := Lib.hid (HX0.out.trans0 hx); have HBK1 := Lib.hid (HBK.out.ext hx (fun a => a)); have HF1 := Lib.hid (HFU.out.ext hx (fun a => a)); have HSZ1 := Lib.hid hx.size; clear ho hrs hx HBK HFU)
    | (go_at_call 36; refine (sealS (some ⟨g0, 0, none⟩) (l.length + 80) l _ (full_row HF1.out).2 HB.out (by omega) k HK.out).mono ?_; rintro e w2 ⟨At, ct, rfl, ho, hct, hrs, hx⟩; rw [← HSE.out] at ho; have HO2 := Lib.hid (OwnB.rng ho); have HO12 := Lib.hid (OwnB.ext0 HO1.out hx); have HX2 := Lib.hid (HX1.out.trans0 hx); have HBK2 := Lib.hid (HBK1.out.ext hx (fun a => a)); have HF2 := Lib.hid (HF1.out.ext hx (fun a => a)); have HSZ2 := Lib.hid hx.size; clear ho hrs hx HBK1 HF1 HO1)
    | (go_at_call 37; refine (openS As cs l _ (HSE.out ▸ OwnB.row HO12.out) HB.out k HK.out hcs hkl).mono ?_; rintro e w3 ⟨va, rfl, ho, hx⟩; obtain ⟨Aa, ca, rfl, _, _⟩ := OwnB.sl ho; have HO3 := Lib.hid (OwnB.rng ho); have HO13 := Lib.hid (OwnB.ext0 HO12.out hx); have HO23 := Lib.hid (OwnB.ext0 HO2.out hx); have HX3 := Lib.hid (HX2.out.trans0 hx); have HBK3 := Lib.hid (HBK2.out.ext hx (fun a => a)); have HF3 := Lib.hid (HF2.out.ext hx (fun a => a)); have HSZ3 := Lib.hid hx.size; clear ho hx HBK2 HF2 HO12 HO2)
    | (go_at_call 37; refine (openS As cs l _ (HSE.out ▸ OwnB.row HO13.out) HB.out k HK.out hcs hkl).mono ?_; rintro e w4 ⟨vb, rfl, ho, hx⟩; obtain ⟨Ab, cb, rfl, _, _⟩ := OwnB.sl ho; have HS0 : Hid (SealF w w4 w.heap.size g0 A l S w0.heap.size w1.heap.size w2.heap.size w3.heap.size w4.heap.size (.slice As k cs) (.slice At k ct) (.slice Aa l.length ca) (.slice Ab l.length cb)) := Lib.hid ⟨HX3.out.trans0 hx, HR.out.ext0 (HX3.out.trans0 hx), HBK3.out.ext hx (fun a => a), HF3.out.ext hx (fun a => a), OwnB.ext0 HO13.out hx, OwnB.ext0 HO23.out hx, OwnB.ext0 HO3.out hx, OwnB.rng ho⟩; have HZ : Hid (w.heap.size < g0 ∧ w.heap.size < w0.heap.size ∧ w0.heap.size ≤ w1.heap.size ∧ w1.heap.size ≤ w2.heap.size ∧ w2.heap.size ≤ w3.heap.size ∧ w3.heap.size ≤ w4.heap.size) := Lib.hid ⟨HGB.out, HSZ0.out, HSZ1.out, HSZ2.out, HSZ3.out, hx.size⟩; clear ho hx HBK3 HF3 HO13 HO23 HO3)
    | (go_at_call 38; refine (rsealS A c l _ HS0.out.row HB.out (by omega) k HK.out).mono ?_; rintro e w5 ⟨Ar, cr, rfl, hrr, hx⟩; rw [← HSE.out] at hrr; have HRR := Lib.hid hrr; have HS1 := Lib.hid (HS0.out.ext0 hx); clear hrr hx HS0)
    | (go_at_call 25; refine (sameK As cs S k HSL.out Ar cr _ (OwnB.row HS1.out.s) HRR.out hkl).mono ?_; rintro e w6 ⟨rfl, hx⟩; have HS2 := Lib.hid (HS1.out.ext0 hx); clear hx HS1 HRR)
    | (go_at_call 25; refine (sameK At ct S k HSL.out As cs _ (OwnB.row HS2.out.t) (OwnB.row HS2.out.s) hkl).mono ?_; rintro e w7 ⟨rfl, hx⟩; have HS3 := Lib.hid (HS2.out.ext0 hx); clear hx HS2)
    | (go_at_call 25; refine (sameK Aa ca l l.length rfl A c _ (OwnB.row HS3.out.a) HS3.out.row (by omega)).mono ?_; rintro e w8 ⟨rfl, hx⟩; have HS4 := Lib.hid (HS3.out.ext0 hx); clear hx HS3)
    | (go_at_call 25; refine (sameK Ab cb l l.length rfl A c _ (OwnB.row HS4.out.b) HS4.out.row (by omega)).mono ?_; rintro e w9 ⟨rfl, hx⟩; have HS5 := Lib.hid (HS4.out.ext0 hx); clear hx HS4)
    | (go_at_call 39; refine (intactK g0 A c l 177 _ HS5.out.full HS5.out.row (by omega)).mono ?_; rintro e wK ⟨rfl, hx⟩; have hf := HS5.out.ext0 hx; have HF := Lib.hid hf; have HB0 := Lib.hid (BookAt.start hf.bk); clear hx HS5 hf)
    | (go_at_call 40; refine (KeepK wK w.heap.size [] As cs S k HSL.out _ HB0.out (by simp) (OwnB.mono HF.out.s (fun q _ h e => by have hz := HZ.out; omega)) (by omega) (fun y hy => by simp at hy)).mono ?_; rintro e wL1 ⟨rfl, n1, hbk, hle⟩; obtain ⟨K1, hK⟩ : ∃ K, K = ((([] : List Kp) ++ [Kp.mk (.slice As k cs) S]).drop n1) := ⟨_, rfl⟩; have ham := Among.next (Among.nil []) (Kp.mk (.slice As k cs) S) n1; rw [← hK] at hbk hle ham; have HB1 := Lib.hid hbk; have HL1 := Lib.hid hle; have HAM1 := Lib.hid ham; clear hbk hle hK ham HB0)
    | (go_at_call 40; refine (KeepK wK w.heap.size K1 At ct S k HSL.out _ HB1.out HL1.out (OwnB.mono HF.out.t (fun q _ h e => by have hz := HZ.out; omega)) (by omega) (hapOf HAM1.out (fun y hm q h1 h2 => by simp only [List.nil_append, List.cons_append, List.mem_cons, List.not_mem_nil, or_false] at hm; have hz := HZ.out; have hF := HF.out; rcases hm with rfl <;> (first | (have h3 := hF.s.blk q h1; have h4 := hF.t.blk q h2; omega))))).mono ?_; rintro e wL2 ⟨rfl, n2, hbk, hle⟩; obtain ⟨K2, hK⟩ : ∃ K, K = ((K1 ++ [Kp.mk (.slice At k ct) S]).drop n2) := ⟨_, rfl⟩; have ham := Among.next HAM1.out (Kp.mk (.slice At k ct) S) n2; rw [← hK] at hbk hle ham; have HB2 := Lib.hid hbk; have HL2 := Lib.hid hle; have HAM2 := Lib.hid ham; clear hbk hle hK ham HB1 HAM1 HL1)
    | (go_at_call 40; refine (KeepK wK w.heap.size K2 Aa ca l l.length rfl _ HB2.out HL2.out (OwnB.mono HF.out.a (fun q _ h e => by have hz := HZ.out; omega)) (by omega) (hapOf HAM2.out (fun y hm q h1 h2 => by simp only [List.nil_append, List.cons_append, List.mem_cons, List.not_mem_nil, or_false] at hm; have hz := HZ.out; have hF := HF.out; rcases hm with rfl | rfl <;> (first | (have h3 := hF.s.blk q h1; have h4 := hF.a.blk q h2; omega) | (have h3 := hF.t.blk q h1; have h4 := hF.a.blk q h2; omega))))).mono ?_; rintro e wL3 ⟨rfl, n3, hbk, hle⟩; obtain ⟨K3, hK⟩ : ∃ K, K = ((K2 ++ [Kp.mk (.slice Aa l.length ca) l]).drop n3) := ⟨_, rfl⟩; have ham := Among.next HAM2.out (Kp.mk (.slice Aa l.length ca) l) n3; rw [← hK] at hbk hle ham; have HB3 := Lib.hid hbk; have HL3 := Lib.hid hle; have HAM3 := Lib.hid ham; clear hbk hle hK ham HB2 HAM2 HL2)
    | (go_at_call 40; refine (KeepK wK w.heap.size K3 Ab cb l l.length rfl _ HB3.out HL3.out (OwnB.mono HF.out.b (fun q _ h e => by have hz := HZ.out; omega)) (by omega) (hapOf HAM3.out (fun y hm q h1 h2 => by simp only [List.nil_append, List.cons_append, List.mem_cons, List.not_mem_nil, or_false] at hm; have hz := HZ.out; have hF := HF.out; rcases hm with rfl | rfl | rfl <;> (first | (have h3 := hF.s.blk q h1; have h4 := hF.b.blk q h2; omega) | (have h3 := hF.t.blk q h1; have h4 := hF.b.blk q h2; omega) | (have h3 := hF.a.blk q h1; have h4 := hF.b.blk q h2; omega))))).mono ?_; rintro e wL4 ⟨rfl, n4, hbk, hle⟩; obtain ⟨K4, hK⟩ : ∃ K, K = ((K3 ++ [Kp.mk (.slice Ab l.length cb) l]).drop n4) := ⟨_, rfl⟩; have ham := Among.next HAM3.out (Kp.mk (.slice Ab l.length cb) l) n4; rw [← hK] at hbk hle ham; have HB4 := Lib.hid hbk; have HL4 := Lib.hid hle; have HAM4 := Lib.hid ham; clear hbk hle hK ham HB3 HAM3 HL3)
    | (go_at_call 41; refine (Apart_any wK w.heap.size K4 _ HB4.out (by have := HL4.out; omega)).mono ?_; rintro e wQ ⟨rfl, hx⟩; have HXQ : Hid (Ext None_ w wQ) := Lib.hid (HF.out.ext.trans hx (fun q hq e => extOf HAM4.out (fun y hm e => by simp only [List.nil_append, List.cons_append, List.mem_cons, List.not_mem_nil, or_false] at hm; have hz := HZ.out; have hF := HF.out; rcases hm with rfl | rfl | rfl | rfl <;> (first | (have h3 := hF.s.blk q e; omega) | (have h3 := hF.t.blk q e; omega) | (have h3 := hF.a.blk q e; omega) | (have h3 := hF.b.blk q e; omega))) hq e)); clear hx HB4)
    | (go_at_call 43; refine (SumRuns_any _).mono ?_; rintro e wZ ⟨rfl, hx⟩; have HXZ := Lib.hid (HXQ.out.trans0 hx); clear hx HXQ))
  go_ret
  exact ⟨rfl, HXZ.out⟩
theorem SumSeals_row {A : Option Addr} {c : Nat} (l : List Int) {w : World} (hr : Row w A (B8 l)) (hc : l.length ≤ c) (hm : c ≤ 140737488351232) (hb : Byt l) : Calls Try.prog 12 #[.slice A l.length c] w fun e w' => e = .returned (.bool true) ∧ Ext None_ w w' := SumSeals_any l hr hc hm hb
end Go.Proofs.Ytghkgfeamijefaa
