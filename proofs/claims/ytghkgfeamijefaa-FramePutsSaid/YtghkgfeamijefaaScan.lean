/- Packages frame and drayref20, walked: Scan. Written by gen_scan.py. -/
import Derived.Test.YtghkgfeamijefaaRNext
import Derived.Test.YtghkgfeamijefaaBk3
set_option linter.unusedVariables false
set_option linter.unusedSimpArgs false
namespace Go.Proofs.Ytghkgfeamijefaa
open Go.RowKit B
theorem hn_nonneg (r : List Int) (hb : Byt r) : 0 ≤ hn r := by
  have b0 := rd_byte r hb 0
  have b1 := rd_byte r hb 1
  have b2 := rd_byte r hb 2
  have b3 := rd_byte r hb 3
  unfold hn val4
  omega
theorem nextF_ok (l : List Int) (hb : Byt l) (k : Int) (h : (nextF l k).2.2 = 0) : 0 ≤ k ∧ k + 8 ≤ (nextF l k).2.1 ∧ (nextF l k).2.1 ≤ l.length ∧ (nextF l k).1.length ≤ 16384 := by
  unfold nextF at h ⊢
  split at h
  · cases h
  · rename_i h0
    rw [if_neg h0]
    split at h
    · cases h
    · rename_i h1
      rw [if_neg h1]
      split at h
      · cases h
      · rename_i h2
        rw [if_neg h2]
        split at h
        · cases h
        · rename_i h3
          rw [if_neg h3]
          split at h
          · cases h
          · rename_i h4
            rw [if_neg h4]
            split at h
            · cases h
            · rename_i h5
              rw [if_neg h5]
              simp only
              rw [List.length_drop] at h2 h4
              have hp : (bodyOf (l.drop k.toNat)).length ≤ (hn (l.drop k.toNat)).toNat := by unfold bodyOf; rw [List.length_drop, List.length_take]; omega
              have hz := hn_nonneg (l.drop k.toNat) (fun x hx => hb x (List.mem_of_mem_drop hx))
              omega
/-- All records from a place on. -/
def scanL (l : List Int) : Nat → List (List Int) → Int → List (List Int) × Int
  | 0, acc, k => (acc, k)
  | n + 1, acc, k => if (nextF l k).2.2 = 0 then scanL l n (acc ++ [(nextF l k).1]) (nextF l k).2.1 else (acc, k)
def scanF (l : List Int) : List (List Int) × Int := scanL l (l.length + 1) [] 0
structure Recs (w0 w : World) (v : Value) (us : List Value) (rs : List (List Int)) : Prop where
  tab : Tab w v us
  len : us.length = rs.length
  own : ∀ (i : Nat) (u : Value) (r : List Int), us[i]? = some u → rs[i]? = some r → OwnB w (fun k => w0.heap.size ≤ k) u r
  apart : us.Pairwise (fun x y => ∀ k, x.ownBlock = some k → ¬ y.ownBlock = some k)
  tb : ∀ k, v.ownBlock = some k → w0.heap.size ≤ k ∧ ∀ u ∈ us, ¬ u.ownBlock = some k
theorem Recs.ext0 {w0 w w' : World} {v : Value} {us : List Value} {rs : List (List Int)} (h : Recs w0 w v us rs) (hx : Ext None_ w w') : Recs w0 w' v us rs :=
  ⟨h.tab.ext0 hx, h.len, fun i u r h1 h2 => OwnB.ext0 (h.own i u r h1 h2) hx, h.apart, h.tb⟩
theorem Recs.nil (w : World) : Recs w w (.slice none 0 0) [] [] := ⟨Tab.nil _, rfl, fun i u r h => by simp at h, List.Pairwise.nil, fun k h => by simp [Value.ownBlock] at h⟩
theorem Recs.blk {w0 w : World} {v : Value} {us : List Value} {rs : List (List Int)} (h : Recs w0 w v us rs) : ∀ u ∈ us, ∀ k, u.ownBlock = some k → w0.heap.size ≤ k ∧ k < w.heap.size := fun u hu k hk => by
  obtain ⟨i, hi, rfl⟩ := List.getElem_of_mem hu
  have := h.own i us[i] (rs[i]'(by have := h.len; omega)) (List.getElem?_eq_getElem hi) (List.getElem?_eq_getElem (by have := h.len; omega))
  exact ⟨this.blk k hk, Own.lt this k hk⟩
/-- One record more. -/
theorem Recs.snoc {w0 w wa w' : World} {v v' u : Value} {us : List Value} {rs : List (List Int)} {r : List Int} (h : Recs w0 w v us rs) (hs : w0.heap.size ≤ w.heap.size) (hu : OwnB wa (fun k => w.heap.size ≤ k) u r) (hx : Ext None_ w wa) (hT : Tab w' v' (us ++ [u])) (hx2 : Ext (fun k => v.ownBlock = some k) wa w') (hn : ∀ k, v'.ownBlock = some k → v.ownBlock = some k ∨ wa.heap.size ≤ k) : Recs w0 w' v' (us ++ [u]) (rs ++ [r]) := by
  have hlt := h.tab.lt
  have hub : ∀ k, u.ownBlock = some k → w.heap.size ≤ k ∧ k < wa.heap.size := fun k hk => ⟨hu.blk k hk, Own.lt hu k hk⟩
  refine ⟨hT, by simp [h.len], fun i x y h1 h2 => ?_, ?_, fun k hk => ?_⟩
  · by_cases hi : i < us.length
    · rw [List.getElem?_append_left hi] at h1
      rw [List.getElem?_append_left (by rw [← h.len]; exact hi)] at h2
      have := OwnB.ext0 (h.own i x y h1 h2) hx
      exact OwnB.ext this hx2 (fun k hk e => (h.tb k e).2 x (List.mem_of_getElem? h1) hk)
    · rw [List.getElem?_append_right (by omega)] at h1
      rw [List.getElem?_append_right (by rw [← h.len]; omega), ← h.len] at h2
      have hi2 : i - us.length = 0 := by
        have := (List.getElem?_eq_some_iff.1 h1).1
        simpa using this
      rw [hi2] at h1 h2
      cases h1
      cases h2
      exact OwnB.ext (OwnB.mono hu (fun k _ hk => Nat.le_trans hs hk)) hx2 (fun k hk e => by have := hlt k e; have := (hub k hk).1; omega)
  · rw [List.pairwise_append]
    refine ⟨h.apart, List.pairwise_singleton _ _, fun x hx y hy => ?_⟩
    rw [List.mem_singleton] at hy
    subst hy
    intro k h1 h2
    have := (h.blk x hx k h1).2
    have := (hub k h2).1
    omega
  · rcases hn k hk with e | e
    · refine ⟨(h.tb k e).1, fun y hy hy2 => ?_⟩
      rcases List.mem_append.1 hy with hy | hy
      · exact (h.tb k e).2 y hy hy2
      · rw [List.mem_singleton] at hy
        subst hy
        have := hlt k e
        have := (hub k hy2).1
        omega
    · have hwa := hx.size
      refine ⟨by omega, fun y hy hy2 => ?_⟩
      rcases List.mem_append.1 hy with hy | hy
      · have := (h.blk y hy k hy2).2
        omega
      · rw [List.mem_singleton] at hy
        subst hy
        have := (hub k hy2).2
        omega
def ScanP (l : List Int) (w : World) (e : Ending) (w' : World) : Prop := ∃ A c us, e = .returned (.tuple #[.slice A (scanF l).1.length c, .int .i64 (scanF l).2]) ∧ Recs w w' (.slice A (scanF l).1.length c) us (scanF l).1 ∧ Ext None_ w w'
set_option maxRecDepth 100000 in
set_option maxHeartbeats 8000000 in
theorem Scan_any (A : Option Addr) (c : Nat) (l : List Int) (w : World) (hrow : Row w A (B8 l)) (hb : Byt l) (hc : l.length ≤ c) (hlen : l.length ≤ 1048576) : Calls Try.prog 44 #[.slice A l.length c] w (ScanP l w) := by
  have HN := Lib.hid (fun (k : Int) (W : World) (hx : Ext None_ w W) => next_any A c l k W (hrow.ext0 hx) hb hc (by omega))
  have HB := Lib.hid hb
  have HR0 := Lib.hid (Recs.nil w)
  obtain ⟨SF, hSF⟩ : ∃ x, x = scanF l := ⟨_, rfl⟩
  have HSF := Lib.hid hSF
  have HST : Hid (scanL l (l.length + 1) [] 0 = SF) := Lib.hid (by rw [hSF]; rfl)
  have HBS := fun (A : Option Addr) (n c : Nat) (W : World) => book_slice A n c W
  clear hrow hb hSF
  go_enter Try.func44, Try.ntmps44
  go_wp2_with fail
  go_loopw [4, 5] (fun v4 v5 wr => ∃ (B : Option Addr) (b : Nat) (us : List Value) (acc : List (List Int)) (k n : Nat), v4 = .slice B acc.length b ∧ v5 = .int .i64 k ∧ k ≤ l.length ∧ l.length + 1 ≤ k + n ∧ 8 * acc.length ≤ k ∧ Hid (scanL l n acc k = SF) ∧ Hid (Recs w wr (.slice B acc.length b) us acc) ∧ Hid (Ext None_ w wr)) (fun _ v5 _ => l.length - (intOf v5).toNat)
  case atStart => exact ⟨none, 0, [], [], 0, l.length + 1, rfl, rfl, by omega, by omega, by simp, HST, HR0, Lib.hid (Ext.refl _ _)⟩
  case round =>
    obtain ⟨B, b, us, acc, k, n, rfl, rfl, hk, hn, hac, hsc, hre, hxr⟩ := hrel
    obtain ⟨n, rfl⟩ : ∃ m, n = m + 1 := ⟨n - 1, by omega⟩
    have HNX := Lib.hid (HN.out (k : Int) wr hxr.out)
    obtain ⟨⟨p, to, e0⟩, hnx⟩ : ∃ x, x = nextF l (k : Int) := ⟨_, rfl⟩
    have hok := nextF_ok l HB.out k
    have hsl : scanL l (n + 1) acc k = if (nextF l k).2.2 = 0 then scanL l n (acc ++ [(nextF l k).1]) (nextF l k).2.1 else (acc, (k : Int)) := rfl
    rw [← hnx] at hok hsl
    simp only at hok hsl
    have HNE := Lib.hid hnx
    clear HST HR0 hnx
    by_cases he : e0 = 0
    · rw [if_pos he] at hsl
      subst he
      obtain ⟨k0, k1, k2, k3⟩ := hok rfl
      obtain ⟨t2, rfl⟩ : ∃ m : Nat, to = m := ⟨to.toNat, by omega⟩
      have HSL := Lib.hid hsl
      clear hok hsl
      go_wp2_with (first
        | (go_at_call 73; refine HNX.out.mono ?_; rintro e w2 ⟨v', rfl, ho, hx⟩; rw [← HNE.out] at ho ⊢; obtain ⟨Ap, cp, rfl, _⟩ := own_sl ho; have HO := Lib.hid ho; have HX2 := Lib.hid hx; clear ho hx HNX)
        | (at_builtin; refine wpList_tab rfl (.tmp 20) (.tmp 22) rfl (.slice B acc.length b) us rfl ((hre.out.ext0 HX2.out).tab.ext0 (x0 _ _)) ⟨w2.heap.size, 0, none⟩ 1 (.slice Ap p.length cp) rfl (Blk.cell (Blk.new w2 _ _) 0) rfl (by rw [hre.out.len]; omega) ?_; intro v' w3 hT hx hn3; have hre3 := hre.out.snoc hxr.out.size (OwnB.ext0 HO.out (x0 _ _)) (HX2.out.trans0 (x0 _ _)) hT hx hn3; have hx3 := ((hxr.out.trans0 HX2.out).trans0 (x0 w2 _)).trans hx (fun q hq e => by have := (hre.out.tb q e).1; omega); obtain ⟨B2, b2, rfl, _⟩ := hT.isSl; have HRE3 := Lib.hid hre3; have HX3 := Lib.hid hx3; clear hT hx hn3 hre3 hx3 HO HX2))
      have hlu : (us ++ [Value.slice Ap p.length cp]).length = (acc ++ [p]).length := by have := hre.out.len; simp [this]
      go_roundw
      case rel =>
        refine ⟨B2, b2, us ++ [Value.slice Ap p.length cp], acc ++ [p], t2, n, ?_, rfl, by omega, by omega, by rw [List.length_append, List.length_singleton]; omega, Lib.hid (by rw [← HSL.out]; exact hsc.out), ?_, HX3⟩
        · first | rfl | (rw [← hlu]; simp) | (have := hre.out.len; simp [this])
        · refine Lib.hid ?_
          rw [← hlu]
          exact HRE3.out
      case measure => simp [intOf]; omega
    · rw [if_neg he] at hsl
      have hb1 : (e0 != 0) = true := by simp [he]
      have HSL := Lib.hid hsl
      clear hok hsl he
      go_wp2_with (go_at_call 73; refine HNX.out.mono ?_; rintro e w2 ⟨v', rfl, ho, hx⟩; rw [← HNE.out] at ho ⊢; have HX2 := Lib.hid hx; clear ho hx HNX)
      go_ret2
      unfold ScanP
      rw [← HSF.out, ← hsc.out, HSL.out]
      exact ⟨B, b, us, rfl, hre.out.ext0 HX2.out, hxr.out.trans0 HX2.out⟩
set_option maxRecDepth 100000 in
set_option maxHeartbeats 8000000 in
theorem RScan_any (A : Option Addr) (c : Nat) (l : List Int) (w : World) (hrow : Row w A (B8 l)) (hb : Byt l) (hc : l.length ≤ c) (hlen : l.length ≤ 1048576) : Calls Try.prog 45 #[.slice A l.length c] w (ScanP l w) := by
  have HN := Lib.hid (fun (k : Int) (W : World) (hx : Ext None_ w W) => rnext_any A c l k W (hrow.ext0 hx) hb hc (by omega))
  have HB := Lib.hid hb
  have HR0 := Lib.hid (Recs.nil w)
  obtain ⟨SF, hSF⟩ : ∃ x, x = scanF l := ⟨_, rfl⟩
  have HSF := Lib.hid hSF
  have HST : Hid (scanL l (l.length + 1) [] 0 = SF) := Lib.hid (by rw [hSF]; rfl)
  have HBS := fun (A : Option Addr) (n c : Nat) (W : World) => book_slice A n c W
  clear hrow hb hSF
  go_enter Try.func45, Try.ntmps45
  go_wp2_with fail
  go_loopw [4, 5] (fun v4 v5 wr => ∃ (B : Option Addr) (b : Nat) (us : List Value) (acc : List (List Int)) (k n : Nat), v4 = .slice B acc.length b ∧ v5 = .int .i64 k ∧ k ≤ l.length ∧ l.length + 1 ≤ k + n ∧ 8 * acc.length ≤ k ∧ Hid (scanL l n acc k = SF) ∧ Hid (Recs w wr (.slice B acc.length b) us acc) ∧ Hid (Ext None_ w wr)) (fun _ v5 _ => l.length - (intOf v5).toNat)
  case atStart => exact ⟨none, 0, [], [], 0, l.length + 1, rfl, rfl, by omega, by omega, by simp, HST, HR0, Lib.hid (Ext.refl _ _)⟩
  case round =>
    obtain ⟨B, b, us, acc, k, n, rfl, rfl, hk, hn, hac, hsc, hre, hxr⟩ := hrel
    obtain ⟨n, rfl⟩ : ∃ m, n = m + 1 := ⟨n - 1, by omega⟩
    have HNX := Lib.hid (HN.out (k : Int) wr hxr.out)
    obtain ⟨⟨p, to, e0⟩, hnx⟩ : ∃ x, x = nextF l (k : Int) := ⟨_, rfl⟩
    have hok := nextF_ok l HB.out k
    have hsl : scanL l (n + 1) acc k = if (nextF l k).2.2 = 0 then scanL l n (acc ++ [(nextF l k).1]) (nextF l k).2.1 else (acc, (k : Int)) := rfl
    rw [← hnx] at hok hsl
    simp only at hok hsl
    have HNE := Lib.hid hnx
    clear HST HR0 hnx
    by_cases he : e0 = 0
    · rw [if_pos he] at hsl
      subst he
      obtain ⟨k0, k1, k2, k3⟩ := hok rfl
      obtain ⟨t2, rfl⟩ : ∃ m : Nat, to = m := ⟨to.toNat, by omega⟩
      have HSL := Lib.hid hsl
      clear hok hsl
      go_wp2_with (first
        | (go_at_call 74; refine HNX.out.mono ?_; rintro e w2 ⟨v', rfl, ho, hx⟩; rw [← HNE.out] at ho ⊢; obtain ⟨Ap, cp, rfl, _⟩ := own_sl ho; have HO := Lib.hid ho; have HX2 := Lib.hid hx; clear ho hx HNX)
        | (at_builtin; refine wpList_tab rfl (.tmp 20) (.tmp 22) rfl (.slice B acc.length b) us rfl ((hre.out.ext0 HX2.out).tab.ext0 (x0 _ _)) ⟨w2.heap.size, 0, none⟩ 1 (.slice Ap p.length cp) rfl (Blk.cell (Blk.new w2 _ _) 0) rfl (by rw [hre.out.len]; omega) ?_; intro v' w3 hT hx hn3; have hre3 := hre.out.snoc hxr.out.size (OwnB.ext0 HO.out (x0 _ _)) (HX2.out.trans0 (x0 _ _)) hT hx hn3; have hx3 := ((hxr.out.trans0 HX2.out).trans0 (x0 w2 _)).trans hx (fun q hq e => by have := (hre.out.tb q e).1; omega); obtain ⟨B2, b2, rfl, _⟩ := hT.isSl; have HRE3 := Lib.hid hre3; have HX3 := Lib.hid hx3; clear hT hx hn3 hre3 hx3 HO HX2))
      have hlu : (us ++ [Value.slice Ap p.length cp]).length = (acc ++ [p]).length := by have := hre.out.len; simp [this]
      go_roundw
      case rel =>
        refine ⟨B2, b2, us ++ [Value.slice Ap p.length cp], acc ++ [p], t2, n, ?_, rfl, by omega, by omega, by rw [List.length_append, List.length_singleton]; omega, Lib.hid (by rw [← HSL.out]; exact hsc.out), ?_, HX3⟩
        · first | rfl | (rw [← hlu]; simp) | (have := hre.out.len; simp [this])
        · refine Lib.hid ?_
          rw [← hlu]
          exact HRE3.out
      case measure => simp [intOf]; omega
    · rw [if_neg he] at hsl
      have hb1 : (e0 != 0) = true := by simp [he]
      have HSL := Lib.hid hsl
      clear hok hsl he
      go_wp2_with (go_at_call 74; refine HNX.out.mono ?_; rintro e w2 ⟨v', rfl, ho, hx⟩; rw [← HNE.out] at ho ⊢; have HX2 := Lib.hid hx; clear ho hx HNX)
      go_ret2
      unfold ScanP
      rw [← HSF.out, ← hsc.out, HSL.out]
      exact ⟨B, b, us, rfl, hre.out.ext0 HX2.out, hxr.out.trans0 HX2.out⟩
end Go.Proofs.Ytghkgfeamijefaa
