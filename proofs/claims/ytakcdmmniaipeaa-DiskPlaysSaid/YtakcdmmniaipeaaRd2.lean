/- The document's disk, walked: made. Written by gen_rd2.py. -/
import Derived.Test.YtakcdmmniaipeaaRd1
set_option linter.unusedVariables false
set_option linter.unusedSimpArgs false
namespace Go.Proofs.Ytakcdmmniaipeaa
open Go.RowKit B
theorem infoSlZ : (Try.prog.info? 22).map (fun i => (i.zero, i.size, i.bytes)) = some (some (.slice none 0 0), 1, 24) := by kernel_rfl
theorem u8_slice0 (W : World) : (Instr.buildSlice 22 0 #[]).run Try.prog W = .ok (.slice (some ⟨W.heap.size, 0, none⟩) 0 0) (W.alloc (.cells #[] 5)) := by
  obtain ⟨ie, hi, hz⟩ := Option.map_eq_some_iff.1 infoU8
  simp [Instr.buildSlice, run_underlying (P := Try.prog) Try.underlying22, sizeOf, typeInfo, hi, newRow, Instr.fill]
  rw [show Array.range 0 = #[] from Array.eq_empty_of_size_eq_zero (by simp), Array.map_empty]
/-- A row of the call's own that is not empty: its block. -/
theorem own_tab {w : World} {e n : Nat} {ok : Nat → Prop} {v : Value} {vs : List Value} (h : Own w e 1 ok v n vs) (hn : 0 < n) : ∃ (g cap : Nat) (cur : Array Value), v = .slice (some ⟨g, 0, none⟩) n cap ∧ Blk w g cur e ∧ n ≤ cap ∧ cap ≤ maxLen ∧ cur.toList.take n = vs ∧ ok g := by
  have hl := h.own.1
  rcases h.own.2 with ⟨rfl, rfl⟩ | ⟨g, cap, cur, rfl, hb, hg, hn2, hm, hs, ht⟩
  · omega
  · exact ⟨g, cap, cur, rfl, hg, hn2, hm, by simpa using ht, h.blk g rfl⟩
/-- The files behind a change: what stands in the new table. -/
theorem keep_fin {w W1 : World} {Z : Nat → Prop} {fs : List (List Int)} {vs : List Value} {g2 cap : Nat} {cur : Array Value} (hv : ∀ (i : Nat) (l : List Int) (u : Value), fs[i]? = some l → vs[i]? = some u → Sl w Z u l) (hlen : vs.length = fs.length) (hx : Ext None_ w W1) (hb : Blk W1 g2 cur 22) (ht : cur.toList.take fs.length = vs) (hg : w.heap.size ≤ g2) (hc : fs.length ≤ cap) (hm : cap ≤ maxLen) :
    RF W1 (Zx w Z) (.slice (some ⟨g2, 0, none⟩) fs.length cap) fs := by
  refine ⟨g2, cap, vs, rfl, hc, hm, hlen, ?_, ⟨.inr hg, hb.lt⟩, fun i l u a1 a2 => ((hv i l u a1 a2).ext hx (fun _ _ a => a)).mono (fun k _ h => .inl h)⟩
  have := hb.row.take fs.length
  rwa [ht] at this
theorem set_fin {w W1 : World} {Z : Nat → Prop} {fs : List (List Int)} {vs : List Value} {g2 cap n : Nat} {cur : Array Value} {u' : Value} {l' : List Int} (hv : ∀ (i : Nat) (l : List Int) (u : Value), fs[i]? = some l → vs[i]? = some u → Sl w Z u l) (hlen : vs.length = fs.length) (hx : Ext None_ w W1) (hb : Blk W1 g2 cur 22) (ht : cur.toList.take fs.length = vs) (hg : w.heap.size ≤ g2) (hc : fs.length ≤ cap) (hm : cap ≤ maxLen) (hn : n < fs.length) (ho : Sl W1 (fun k => w.heap.size ≤ k ∧ k ≠ g2) u' l') :
    RF (W1.setCell ⟨g2, n, none⟩ u') (Zx w Z) (.slice (some ⟨g2, 0, none⟩) fs.length cap) (fs.set n l') ∧ Ext None_ w (W1.setCell ⟨g2, n, none⟩ u') ∧ (W1.cell? ⟨g2, n, none⟩).isSome = true ∧ W1.frozen? ⟨g2, n, none⟩ = false := by
  have hxs : Ext (fun k => k = g2) W1 (W1.setCell ⟨g2, n, none⟩ u') := Ext.setCell (p := ⟨g2, n, none⟩) (Ext.refl (fun k => k = g2) W1) (.inl rfl) u'
  have hX : Ext None_ w (W1.setCell ⟨g2, n, none⟩ u') := hx.trans hxs (fun k hk e => by have e : k = g2 := e; omega)
  have hsz : fs.length ≤ cur.size := by
    have := congrArg List.length ht
    rw [hlen, List.length_take, show cur.toList.length = cur.size from Array.length_toList] at this
    omega
  refine ⟨⟨g2, cap, vs.set n u', by rw [List.length_set], by rw [List.length_set]; exact hc, hm, by simp [hlen], ?_, ⟨.inr hg, (hb.set n u').lt⟩, fun i l u a1 a2 => ?_⟩, hX, ?_, hb.frozen n⟩
  · have := (hb.set n u').row.take fs.length
    rw [Array.toList_setIfInBounds, List.take_set, ht] at this
    exact this
  · rw [List.getElem?_set] at a1 a2
    by_cases e : n = i
    · subst e
      rw [if_pos rfl, if_pos hn] at a1
      rw [if_pos rfl, if_pos (by omega)] at a2
      cases a1
      cases a2
      exact (ho.ext hxs (fun k h e => h.2 e)).mono (fun k _ h => .inr h.1)
    · rw [if_neg e] at a1 a2
      have h0 := hv i l u a1 a2
      have h1 : Sl w (fun k => k < w.heap.size ∧ Z k) u l := by
        obtain ⟨A, c, q1, q2, q3, q4, q5, q6⟩ := h0
        exact ⟨A, c, q1, q2, q3, q4, q5, fun ad e => ⟨⟨(q6 ad e).2, (q6 ad e).1⟩, (q6 ad e).2⟩⟩
      exact (h1.ext hX (fun _ _ a => a)).mono (fun k _ h => .inl h.2)
  · rw [hb.cell]
    simp; omega
theorem own_made2 (w : World) (X : Array Value) : Own ((w.alloc (.cells X 109)).alloc (.cells #[] 22)) 22 1 (fun _ => True) (.slice (some ⟨w.heap.size + 1, 0, none⟩) 0 0) 0 [] := by
  have := Own.made (e := 22) (size := 1) (w.alloc (.cells X 109)) #[] 0 (by simp [maxLen]) rfl
  rw [show (w.alloc (.cells X 109)).heap.size = w.heap.size + 1 by simp] at this
  exact this.mono (fun _ _ _ => trivial)
theorem made_app {w w2 : World} {X : Array Value} {vs : List Value} {v' : Value} (ho : Own w2 22 1 (fun k => (Value.slice (some ⟨w.heap.size + 1, 0, none⟩) 0 0).ownBlock = some k ∨ ((w.alloc (.cells X 109)).alloc (.cells #[] 22)).heap.size ≤ k) v' (0 + 64) ([] ++ vs)) (hx : Ext (fun k => (Value.slice (some ⟨w.heap.size + 1, 0, none⟩) 0 0).ownBlock = some k) ((w.alloc (.cells X 109)).alloc (.cells #[] 22)) w2) :
    ∃ (g2 cap2 : Nat) (cur : Array Value), v' = .slice (some ⟨g2, 0, none⟩) 64 cap2 ∧ Hid (Ext None_ w w2) ∧ Hid (Blk w2 w.heap.size X 109) ∧ Hid (Blk w2 g2 cur 22) ∧ 64 ≤ cap2 ∧ cap2 ≤ maxLen ∧ Hid (cur.toList.take 64 = vs) ∧ w.heap.size < g2 := by
  have ho : Own w2 22 1 (fun k => w.heap.size < k) v' 64 vs := by
    rw [Nat.zero_add, List.nil_append] at ho
    exact ho.mono (fun k _ h => by
      rcases h with h | h
      · simp [Value.ownBlock] at h; omega
      · simp at h; omega)
  have hx2 : Ext None_ w w2 := (((Ext.refl None_ w).alloc _).alloc _).trans hx (fun k hk e => by simp [Value.ownBlock] at e; omega)
  have hbx : Blk w2 w.heap.size X 109 := ((Blk.new w _ _).alloc _).ext hx (fun e => by simp [Value.ownBlock] at e)
  obtain ⟨g2, cap2, cur, rfl, hbo, hcap2, hcm2, htk, hg2⟩ := own_tab ho (by omega)
  exact ⟨g2, cap2, cur, rfl, Lib.hid hx2, Lib.hid hbx, Lib.hid hbo, hcap2, hcm2, Lib.hid htk, hg2⟩
set_option maxRecDepth 100000 in
set_option maxHeartbeats 8000000 in
theorem made_keep (w : World) (Z : Nat → Prop) (fv : Value) (fs : List (List Int)) (hf : RF w Z fv fs) (h64 : fs.length = 64) (hl : ∀ l ∈ fs, l.length ≤ 1048576) (n at_ : Nat) (hn : n < 64) (hat : at_ ≤ 1048576) (p : List Int) (hp : p.length ≤ 1048576) (u : Value) (hu : Sl w Z u p) (hk : (fileAt fs n).length ≤ at_) :
    Calls Try.prog 83 #[fv, .agg #[.int .i64 n, .int .i64 0, .int .i64 at_, u]] w fun e w' => ∃ v', e = .returned v' ∧ RF w' (Zx w Z) v' (fs) ∧ Ext None_ w w' := by
  obtain ⟨b, cap, A, cc, h1, h2, h3, c0, h4, h5⟩ := hf.file (i := n) (by omega)
  obtain ⟨b', cap', vs, e1, k2, k3, hvl, hrow, hzb, hv⟩ := hf
  obtain ⟨Au, cu, rfl, hur, huc, hum, hub, hua⟩ := hu
  have hll := hl _ (fileAt_mem (fs := fs) (i := n) (by omega))
  subst h1
  cases e1
  obtain ⟨l, hle⟩ : ∃ l, l = fileAt fs n := ⟨_, rfl⟩
  have HLE := Lib.hid hle
  rw [← hle] at c0 h4 h5 hll hk
  obtain ⟨L, hL⟩ : ∃ L, L = fs.length := ⟨_, rfl⟩
  have hlvs : vs.length = L := by rw [hL, hvl]
  have HV := Lib.hid hv
  have HROW := Lib.hid hrow
  have HVL := Lib.hid hvl
  have H5 := Lib.hid h5
  have HU := Lib.hid (And.intro hur hua)
  have HUB := Lib.hid hub
  have h64' : L = 64 := by omega
  have HLL := Lib.hid hL
  rw [← hL] at h2
  have hvs1 : ∀ x ∈ vs, x.oneCell' = true := fun x hx => by
    obtain ⟨i, hi⟩ := List.getElem?_of_mem hx
    have hlt := (List.getElem?_eq_some_iff.1 hi).1
    exact (hv i fs[i] x (List.getElem?_eq_getElem (by omega)) hi).one
  have HONE := Lib.hid hvs1
  rw [← hL]
  clear hv hrow hvl h5 hur hua hub hL hle hvs1 hl hzb hum k2
  subst h64'
  go_enter Try.func83, Try.ntmps83
  go_wp2_with (first
    | (at_builtin; refine app rfl (.tmp 9) (.tmp 10) 59 rfl 22 _ 1 24 Try.underlying59 infoSlZ rfl (by decide) (by decide) _ (.slice (some ⟨w.heap.size + 1, 0, none⟩) 0 0) 0 [] rfl (own_made2 w _) (some ⟨b, 0, none⟩) 64 cap vs rfl (by omega) (HROW.out.ext0 ((x0 w _).trans0 (x0 _ _))) HONE.out (by omega) ?_; intro v' w2 ho hx; obtain ⟨g2, cap2, cur, rfl, HX2, HBX, HBO, hcap2, hcm2, HTK, hg2⟩ := made_app ho hx; have k0 := HBX.out.cell 0; have k1 := HBX.out.cell 1; have k2 := HBX.out.cell 2; have k3' := HBX.out.cell 3; have cf := HX2.out.cell c0 (fun a => a); clear ho hx c0))
  go_ret
  refine ⟨_, rfl, ?_, HX2.out⟩
  have h64 := HLL.out
  have hr := keep_fin HV.out HVL.out HX2.out HBO.out (by rw [← HLL.out]; exact HTK.out) (by omega) (by omega) hcm2
  rw [← HLL.out] at hr
  exact hr
/-! ### the words of the region that cuts a file -/
def SP8 (w2 : World) (g2 : Nat) : Nat → Nat → Prop := fun j k => (j = 0 ∧ w2.heap.size ≤ k) ∨ (j = 1 ∧ k = g2)
def cOw8 (w w2 : World) (g2 p : Nat) (l : List Int) : CG (SP8 w2 g2) := cR p p (fun u W => Own W 5 1 (fun k => w2.heap.size ≤ k ∧ k ≠ g2) u l.length (B8 l)) (fun _ _ _ h hx => h.ext0 hx) (fun k h1 h2 => by omega)
theorem byt_take {l : List Int} {n : Nat} (h : Byt l) : Byt (l.take n) := fun x hx => h x (List.mem_of_mem_take hx)
set_option maxRecDepth 100000 in
set_option maxHeartbeats 8000000 in
theorem made_cut (w : World) (Z : Nat → Prop) (fv : Value) (fs : List (List Int)) (hf : RF w Z fv fs) (h64 : fs.length = 64) (hl : ∀ l ∈ fs, l.length ≤ 1048576) (n at_ : Nat) (hn : n < 64) (hat : at_ ≤ 1048576) (p : List Int) (hp : p.length ≤ 1048576) (u : Value) (hu : Sl w Z u p) (hk : at_ < (fileAt fs n).length) :
    Calls Try.prog 83 #[fv, .agg #[.int .i64 n, .int .i64 0, .int .i64 at_, u]] w fun e w' => ∃ v', e = .returned v' ∧ RF w' (Zx w Z) v' (fs.set n ((fileAt fs n).take at_)) ∧ Ext None_ w w' := by
  obtain ⟨b, cap, A, cc, h1, h2, h3, c0, h4, h5⟩ := hf.file (i := n) (by omega)
  obtain ⟨b', cap', vs, e1, k2, k3, hvl, hrow, hzb, hv⟩ := hf
  obtain ⟨Au, cu, rfl, hur, huc, hum, hub, hua⟩ := hu
  have hll := hl _ (fileAt_mem (fs := fs) (i := n) (by omega))
  subst h1
  cases e1
  obtain ⟨l, hle⟩ : ∃ l, l = fileAt fs n := ⟨_, rfl⟩
  have HLE := Lib.hid hle
  rw [← hle] at c0 h4 h5 hll hk
  obtain ⟨L, hL⟩ : ∃ L, L = fs.length := ⟨_, rfl⟩
  have hlvs : vs.length = L := by rw [hL, hvl]
  have HV := Lib.hid hv
  have HROW := Lib.hid hrow
  have HVL := Lib.hid hvl
  have H5 := Lib.hid h5
  have HU := Lib.hid (And.intro hur hua)
  have HUB := Lib.hid hub
  have h64' : L = 64 := by omega
  have HLL := Lib.hid hL
  rw [← hL] at h2
  have hvs1 : ∀ x ∈ vs, x.oneCell' = true := fun x hx => by
    obtain ⟨i, hi⟩ := List.getElem?_of_mem hx
    have hlt := (List.getElem?_eq_some_iff.1 hi).1
    exact (hv i fs[i] x (List.getElem?_eq_getElem (by omega)) hi).one
  have HONE := Lib.hid hvs1
  rw [← hL]
  clear hv hrow hvl h5 hur hua hub hL hle hvs1 hl hzb hum k2
  subst h64'
  go_enter Try.func83, Try.ntmps83
  go_wp2_with (first
    | (at_builtin; refine app rfl (.tmp 9) (.tmp 10) 59 rfl 22 _ 1 24 Try.underlying59 infoSlZ rfl (by decide) (by decide) _ (.slice (some ⟨w.heap.size + 1, 0, none⟩) 0 0) 0 [] rfl (own_made2 w _) (some ⟨b, 0, none⟩) 64 cap vs rfl (by omega) (HROW.out.ext0 ((x0 w _).trans0 (x0 _ _))) HONE.out (by omega) ?_; intro v' w2 ho hx; obtain ⟨g2, cap2, cur, rfl, HX2, HBX, HBO, hcap2, hcm2, HTK, hg2⟩ := made_app ho hx; have k0 := HBX.out.cell 0; have k1 := HBX.out.cell 1; have k2 := HBX.out.cell 2; have k3' := HBX.out.cell 3; have cf := HX2.out.cell c0 (fun a => a); clear ho hx c0))
  have HBY : Hid (Byt l) := Lib.hid (by obtain ⟨_, _, _, _, _, _, q, _⟩ := H5.out; exact q)
  have HG2 := Lib.hid hg2
  have hrl : Row w A (B8 l) := by obtain ⟨_, _, e, q, _⟩ := H5.out; cases e; exact q
  obtain ⟨A9, hA9, hcut9⟩ := cut_h (P := Try.prog) 22 5 1 Try.underlying22 infoU8 A l.length cc (at_ : Int) (by omega) (by omega)
  have hr9 : Row w A9 (B8 (l.take at_)) := by
    have := cut_row (lo := 0) (hi := at_) hrl hA9 (by rw [B8_length]; omega)
    unfold B8 at this ⊢
    rw [List.map_take]
    simpa using this
  rw [show (at_ : Int).toNat = (l.take at_).length by rw [List.length_take]; omega] at hcut9
  obtain ⟨c9, hc9⟩ : ∃ x, x = cc := ⟨_, rfl⟩
  have HCUT := Lib.hid (And.intro (show ∀ W : World, (Instr.slice 22 (.slice A l.length cc) none (some (.int .i64 (at_ : Int))) none).run Try.prog W = .ok (.slice A9 (l.take at_).length c9) W from hc9 ▸ hcut9) (hr9.ext0 HX2.out))
  clear hrl hA9 hcut9 hr9 hc9
  refine wp_region_chain [8, 10] [(0, 1), (0, 1), (0, 1), (0, 0), (0, 0), (0, 0), (0, 0), (0, 0), (0, 1), (0, 1), (1, 2)] (SP8 w2 g2) [⟨fun W => Ext None_ w2.drew W, fun _ _ h hx => h.trans0 hx⟩, ⟨fun W => Ext None_ w2.drew W, fun _ _ h hx => h.trans0 hx⟩, ⟨fun W => RF W (Zx w Z) (.slice (some ⟨g2, 0, none⟩) fs.length cap2) (fs.set n (l.take at_)) ∧ Ext None_ w W, fun _ _ h hx => ⟨h.1.ext0 hx, h.2.trans0 hx⟩⟩] [cv _, cv _, cv _, cOw8 w w2 g2 0 [], cv _, cv _, cv _, cv (.slice A9 (l.take at_).length c9), cOw8 w w2 g2 1 (l.take at_), cv (.pointer (some ⟨g2, n, none⟩)), cAny] (by kernel_rfl) rfl rfl rfl rfl rfl rfl rfl rfl ((Ext.refl None_ w2.drew : Ext None_ w2.drew w2.drew)) ⟨
    (by
      intro Lq aq wq kq hd hj hlo hhi Kq hK
      rw [if_pos (wanted_none rfl)]
      have f5 := hj.base 5 rfl rfl
      exact opMove hK rfl (ev f5) rfl),
    (by
      intro Lq aq wq kq hd hj hlo hhi Kq hK
      rw [if_pos (wanted_none rfl)]
      have f3 := hj.base 3 rfl rfl
      exact opFieldA hK rfl (k := 0) (ev f3) (fun W => by kernel_rfl) rfl),
    (by
      intro Lq aq wq kq hd hj hlo hhi Kq hK
      rw [if_pos (wanted_none rfl)]
      have f26 := hj.val 1 26 rfl rfl (by simp) rfl (hd ⟨1, .data⟩ (by simp) rfl)
      have hj0 : Ext None_ w2.drew wq := by
        rcases (show kq = 0 ∨ kq = 1 from by have : kq ≤ 1 := hhi; omega) with rfl | rfl <;> exact hj.inv
      have hxq : Ext None_ w2 wq := (Ext.refl None_ w2).drew.trans0 hj0
      exact opLoad hK rfl (ev f26) Try.underlying3 rfl (Ext.cell hxq k0 (fun a => a)) rfl),
    (by
      intro Lq aq wq kq hd hj hlo hhi Kq hK
      rw [if_pos (wanted_none rfl)]
      have hj0 : Ext None_ w2.drew wq := by
        obtain rfl : kq = 0 := Nat.le_antisymm hhi (Nat.zero_le _)
        exact hj.inv
      have hxq : Ext None_ w2 wq := (Ext.refl None_ w2).drew.trans0 hj0
      exact opSlice hK rfl (ps := #[]) (by simp) u8_slice0 ⟨Nat.zero_le _, fun _ => (Own.full wq #[] 0 (by simp [maxLen]) rfl).mono (fun k _ e => by have := Ext.size hxq; have := HX2.out.size; have := HBO.out.lt; omega)⟩),
    (by
      intro Lq aq wq kq hd hj hlo hhi Kq hK
      rw [if_pos (wanted_none rfl)]
      have f6 := hj.base 6 rfl rfl
      exact opMove hK rfl (ev f6) rfl),
    (by
      intro Lq aq wq kq hd hj hlo hhi Kq hK
      rw [if_pos (wanted_none rfl)]
      have f3 := hj.base 3 rfl rfl
      exact opFieldA hK rfl (k := 2) (ev f3) (fun W => by kernel_rfl) rfl),
    (by
      intro Lq aq wq kq hd hj hlo hhi Kq hK
      rw [if_pos (wanted_none rfl)]
      have f30 := hj.val 5 30 rfl rfl (by simp) rfl (hd ⟨5, .data⟩ (by simp) rfl)
      have hj0 : Ext None_ w2.drew wq := by
        obtain rfl : kq = 0 := Nat.le_antisymm hhi (Nat.zero_le _)
        exact hj.inv
      have hxq : Ext None_ w2 wq := (Ext.refl None_ w2).drew.trans0 hj0
      exact opLoad hK rfl (ev f30) Try.underlying3 rfl (Ext.cell hxq k2 (fun a => a)) rfl),
    (by
      intro Lq aq wq kq hd hj hlo hhi Kq hK
      rw [if_pos (wanted_none rfl)]
      have f29 := hj.val 4 29 rfl rfl (by simp) rfl (hd ⟨4, .data⟩ (by simp) rfl)
      have f31 := hj.val 6 31 rfl rfl (by simp) rfl (hd ⟨6, .data⟩ (by simp) rfl)
      exact opSliceOp hK rfl (ev f29) rfl (by simp [ev f31]) rfl Try.underlying22 HCUT.out.1 rfl),
    (by
      intro Lq aq wq hd hj Kq hK
      rw [if_pos (wanted_none rfl)]
      obtain ⟨u28, f28, g28⟩ := hj.at_ 3 28 rfl rfl (by simp) (hd ⟨3, .data⟩ (by simp) rfl)
      have f32 := hj.val 7 32 rfl rfl (by simp) rfl (hd ⟨7, .data⟩ (by simp) rfl)
      have hxq : Ext None_ w2 wq := (Ext.refl None_ w2).drew.trans0 (hj.inv : Ext None_ w2.drew wq)
      have hown := g28.2 (Nat.le_refl _)
      exact wpApp _ _ 22 rfl 5 (.int .u8 0) 1 1 Try.underlying22 infoU8 rfl (by decide) (by decide) _ u28 0 [] (ev f28) hown A9 (l.take at_).length c9 (B8 (l.take at_)) (ev f32) (by rw [B8_length, Nat.mul_one]) (HCUT.out.2.ext0 hxq) (B8_one _) (by rw [List.length_take]; omega) (fun v' w' h1 h2 => hK v' w' ⟨Nat.le_refl _, fun _ => by
        rw [Nat.zero_add, List.nil_append] at h1
        exact h1.mono (fun k _ e => e.elim (fun e => hown.blk k e) (fun e => by have := Ext.size hxq; have := HG2.out; have := HBO.out.lt; omega))⟩ ((hj.inv : Ext None_ w2.drew wq).trans h2 (fun k hk e => absurd (hown.blk k e).1 (Nat.not_le.2 hk))) (h2.mono (fun k _ e => .inl ⟨rfl, (hown.blk k e).1⟩)))),
    (by
      intro Lq aq wq kq hd hj hlo hhi Kq hK
      rw [if_pos (wanted_none rfl)]
      have f25 := hj.val 0 25 rfl rfl (by simp) rfl (hd ⟨0, .data⟩ (by simp) rfl)
      have f27 := hj.val 2 27 rfl rfl (by simp) rfl (hd ⟨2, .data⟩ (by simp) rfl)
      have hj0 : Ext None_ w2.drew wq := by
        rcases (show kq = 0 ∨ kq = 1 from by have : kq ≤ 1 := hhi; omega) with rfl | rfl <;> exact hj.inv
      exact opIndexB hK rfl (j := n) (ev f25) (ev f27) Try.underlying59 infoSl (by omega) (by omega) (by simp) rfl),
    (by
      intro Lq aq wq hd hj Kq hK
      rw [if_pos (wanted_none rfl)]
      have f34 := hj.val 9 34 rfl rfl (by simp) rfl (hd ⟨9, .data⟩ (by simp) rfl)
      obtain ⟨u33, f33, g33⟩ := hj.at_ 8 33 rfl rfl (by simp) (hd ⟨8, .data⟩ (by simp) rfl)
      have hxq : Ext None_ w2 wq := (Ext.refl None_ w2).drew.trans0 (hj.inv : Ext None_ w2.drew wq)
      have ho := g33.2 (Nat.le_refl _)
      obtain ⟨s1, s2, s3, s4⟩ := set_fin (fs := fs) (g2 := g2) (cap := cap2) (n := n) HV.out HVL.out (HX2.out.trans0 hxq) (HBO.out.ext hxq (fun a => a)) (by rw [← HLL.out]; exact HTK.out) (by omega) (by omega) hcm2 (by omega) (Sl.own ho (byt_take HBY.out) (fun k _ h => ⟨by have := HX2.out.size; omega, h.2⟩))
      obtain ⟨A3, c3, e3, _⟩ := Own.slice ho
      exact opStoreC hK rfl (ev f34) (ev f33) (by rw [e3]; rfl) (by rw [e3]; rfl) (by kernel_rfl) s3 s4 trivial ⟨s1, s2⟩ ((Ext.refl _ _).setCell (.inl (.inr ⟨rfl, rfl⟩)) _)),
    trivial⟩ ?fin
  case fin =>
    intro vs4 w4 hI hg
    have hI : RF w4 (Zx w Z) (.slice (some ⟨g2, 0, none⟩) fs.length cap2) (fs.set n (l.take at_)) ∧ Ext None_ w w4 := hI
    have HI := Lib.hid hI
    clear hI hg
    simp only [putAll, Nat.reduceAdd, Nat.zero_add]
    simp only [Act.put, List.setIfInBounds_toArray, List.set_cons_succ, List.set_cons_zero]
    go_wp2_with fail
    go_ret
    refine ⟨_, rfl, ?_, HI.out.2⟩
    have hr := HI.out.1
    rw [← HLL.out, HLE.out] at hr
    exact hr
set_option maxRecDepth 100000 in
set_option maxHeartbeats 8000000 in
theorem made_long (w : World) (Z : Nat → Prop) (fv : Value) (fs : List (List Int)) (hf : RF w Z fv fs) (h64 : fs.length = 64) (hl : ∀ l ∈ fs, l.length ≤ 1048576) (n at_ : Nat) (hn : n < 64) (hat : at_ ≤ 1048576) (p : List Int) (hp : p.length ≤ 1048576) (u : Value) (hu : Sl w Z u p) (hk : (fileAt fs n).length < at_ + p.length) :
    Calls Try.prog 83 #[fv, .agg #[.int .i64 n, .int .i64 at_, .int .i64 (-1), u]] w fun e w' => ∃ v', e = .returned v' ∧ RF w' (Zx w Z) v' (fs.set n (wrF (fileAt fs n) at_ p)) ∧ Ext None_ w w' := by
  obtain ⟨N, hN⟩ : ∃ N, N = at_ + p.length := ⟨_, rfl⟩
  have hN0 : N = max (fileAt fs n).length (at_ + p.length) := by omega
  have hN3 : N ≤ 3145728 := by have := hl _ (fileAt_mem (fs := fs) (i := n) (by omega)); omega
  obtain ⟨Zs, hZ⟩ : ∃ Zs, Zs = List.replicate N (Value.int .u8 0) := ⟨_, rfl⟩
  have hMK : ∀ (W : World) {ops : Array Oper} {rest : List Oper} {o : Oper} {a : Act} {Q : Exit → Act → World → Prop} (hgd : o.guard = none) (x : Operand) (ho : o.op = .makeSlice 22 x x) (I : Int) (hx : a.eval x = .int .i64 I) (hI : I = N), wpList Try.prog ops Q rest (a.put o.dst (.slice (some ⟨W.heap.size, 0, none⟩) N N)) (W.alloc (.cells Zs.toArray 5)) → wpList Try.prog ops Q (o :: rest) a W := by
    intro W ops rest o a Q hgd x ho I hx hI h
    exact wpList_mk8 hgd x ho I N hx hI (by omega) (hZ ▸ h)
  have hZl : Zs.length = N := by rw [hZ]; simp
  obtain ⟨X1, hX1⟩ : ∃ X1, X1 = B8 (fileAt fs n) := ⟨_, rfl⟩
  obtain ⟨X2, hX2⟩ : ∃ X2, X2 = B8 p := ⟨_, rfl⟩
  have hX1l : X1.length = (fileAt fs n).length := by rw [hX1, B8_length]
  have hX2l : X2.length = p.length := by rw [hX2, B8_length]
  have hl1 : (splice Zs 0 X1).length = N := by rw [length_splice _ _ _ (by omega), hZl]
  have hl2 : (splice (splice Zs 0 X1) at_ X2).length = N := by rw [length_splice _ _ _ (by omega), hl1]
  have HE : Hid (B8 (wrF (fileAt fs n) at_ p) = splice (splice Zs 0 X1) at_ X2 ∧ (wrF (fileAt fs n) at_ p).length = N) := Lib.hid (by
    refine ⟨?_, by rw [wrF_length, hN0]⟩
    rw [wrF, B8_splice, B8_splice, B8_zeros, ← hN0, ← hZ, ← hX1, ← hX2])
  have HO1 : Hid (∀ v ∈ X1, v.oneCell' = true) := Lib.hid (hX1 ▸ B8_one _)
  have HO2 : Hid (∀ v ∈ X2, v.oneCell' = true) := Lib.hid (hX2 ▸ B8_one p)
  have HL := Lib.hid (And.intro hZl (And.intro hX1l (And.intro hX2l (And.intro hl1 hl2))))
  have HMIN : Hid (X1.length = Nat.min (fileAt fs n).length N) := Lib.hid (by rw [hX1l]; exact (Nat.min_eq_left (by omega)).symm)
  have HFIT : Hid (0 + X1.length ≤ Zs.length) := Lib.hid (by omega)
  have HMIN2 : Hid (X2.length = Nat.min p.length (N - at_)) := Lib.hid (by rw [hX2l]; exact (Nat.min_eq_left (by omega)).symm)
  have HFIT2 : Hid (at_ + X2.length ≤ (splice Zs 0 X1).length) := Lib.hid (by omega)
  have HCUTS : Hid (∀ gb : Nat, ∃ AN, (0 < X2.length → AN = some ⟨gb, at_, none⟩) ∧ ∀ W : World, (Instr.slice 22 (.slice (some ⟨gb, 0, none⟩) N N) (some (.int .i64 (at_ : Int))) none none).run Try.prog W = .ok (.slice AN (N - at_) (N - at_)) W) := Lib.hid (fun gb => by
    obtain ⟨AN, hAN, hcut⟩ := cut_l (P := Try.prog) 22 5 1 Try.underlying22 infoU8 (some ⟨gb, 0, none⟩) N N (at_ : Int) (by omega) (by omega) (Nat.le_refl _)
    rw [show (at_ : Int).toNat = at_ by omega] at hcut hAN
    exact ⟨AN, fun h => by
      rw [hAN, if_neg (by omega)]
      exact congrArg some ((add_plain _ _).trans (by rw [Nat.mul_one])), hcut⟩)
  have HMK := Lib.hid @hMK
  have HN := Lib.hid hN
  obtain ⟨b, cap, A, cc, h1, h2, h3, c0, h4, h5⟩ := hf.file (i := n) (by omega)
  obtain ⟨b', cap', vs, e1, k2, k3, hvl, hrow, hzb, hv⟩ := hf
  obtain ⟨Au, cu, rfl, hur, huc, hum, hub, hua⟩ := hu
  have hll := hl _ (fileAt_mem (fs := fs) (i := n) (by omega))
  subst h1
  cases e1
  have HPOS : Hid (∀ W2 : World, Ext None_ w W2 → 0 < X1.length → some (⟨W2.heap.size, 0, none⟩ : Addr) = some ⟨W2.heap.size, 0, none⟩ ∧ ∃ ad, A = some ad ∧ ∀ (j : Nat) v, X1[j]? = some v → (W2.alloc (.cells Zs.toArray 5)).cell? (ad.add j) = some v) := Lib.hid (fun W2 hx h => ⟨rfl, by
    have hrl : Row w A (B8 (fileAt fs n)) := by obtain ⟨_, _, e, q, _⟩ := h5; cases e; exact q
    rw [hX1] at h
    obtain ⟨ad, rfl⟩ := hrl.some h
    refine ⟨ad, rfl, fun j v hv => ?_⟩
    rw [hX1] at hv
    obtain ⟨ad', e, hc⟩ := (hrl.ext0 (hx.trans0 (x0 W2 _))) j v hv
    cases e
    exact hc⟩)
  have HPOS2 : Hid (∀ W : World, Ext None_ w W → 0 < X2.length → ∃ ad, Au = some ad ∧ ∀ (j : Nat) v, X2[j]? = some v → W.cell? (ad.add j) = some v) := Lib.hid (fun W hx h => by
    rw [hX2] at h
    obtain ⟨ad, rfl⟩ := hur.some h
    refine ⟨ad, rfl, fun j v hv => ?_⟩
    rw [hX2] at hv
    obtain ⟨ad', e, hc⟩ := (hur.ext0 hx) j v hv
    cases e
    exact hc)
  clear hN0 hMK hZ hZl hX1 hX2 hX1l hX2l hl1 hl2
  obtain ⟨l, hle⟩ : ∃ l, l = fileAt fs n := ⟨_, rfl⟩
  have HLE := Lib.hid hle
  rw [← hle] at HE HMIN c0 h4 h5 hll hk
  obtain ⟨L, hL⟩ : ∃ L, L = fs.length := ⟨_, rfl⟩
  have hlvs : vs.length = L := by rw [hL, hvl]
  have HV := Lib.hid hv
  have HROW := Lib.hid hrow
  have HVL := Lib.hid hvl
  have H5 := Lib.hid h5
  have HU := Lib.hid (And.intro hur hua)
  have HUB := Lib.hid hub
  have h64' : L = 64 := by omega
  have HLL := Lib.hid hL
  rw [← hL] at h2
  have hvs1 : ∀ x ∈ vs, x.oneCell' = true := fun x hx => by
    obtain ⟨i, hi⟩ := List.getElem?_of_mem hx
    have hlt := (List.getElem?_eq_some_iff.1 hi).1
    exact (hv i fs[i] x (List.getElem?_eq_getElem (by omega)) hi).one
  have HONE := Lib.hid hvs1
  rw [← hL]
  clear hv hrow hvl h5 hur hua hub hL hle hvs1 hl hzb hum k2
  subst h64'
  have HNL := Lib.hid hN
  have hNb : N ≤ 3145728 := hN3
  clear hN hN3
  go_enter Try.func83, Try.ntmps83
  go_wp2_with (first
    | (at_builtin; refine app rfl (.tmp 9) (.tmp 10) 59 rfl 22 _ 1 24 Try.underlying59 infoSlZ rfl (by decide) (by decide) _ (.slice (some ⟨w.heap.size + 1, 0, none⟩) 0 0) 0 [] rfl (own_made2 w _) (some ⟨b, 0, none⟩) 64 cap vs rfl (by omega) (HROW.out.ext0 ((x0 w _).trans0 (x0 _ _))) HONE.out (by omega) ?_; intro v' w2 ho hx; obtain ⟨g2, cap2, cur, rfl, HX2, HBX, HBO, hcap2, hcm2, HTK, hg2⟩ := made_app ho hx; have k0 := HBX.out.cell 0; have k1 := HBX.out.cell 1; have k2 := HBX.out.cell 2; have k3' := HBX.out.cell 3; have cf := HX2.out.cell c0 (fun a => a); clear ho hx c0)
    | (refine HMK.out _ rfl (.tmp 52) rfl _ rfl (by have := HN.out; omega) ?_)
    | (refine wpList_copy_splice rfl (.tmp 54) (.tmp 55) 22 22 rfl 5 Try.underlying22 (by kernel_rfl) (some ⟨w2.heap.size, 0, none⟩) A N N l.length cc rfl rfl w2.heap.size 0 Zs 5 (heap_alloc_new w2 _) X1 HMIN.out (HPOS.out w2 HX2.out) HFIT.out HO1.out w2.heap.size w2 (Ext.below ((Ext.refl None_ w2).alloc _)) (Nat.le_refl _) ?_; intro w3 hw3 hb3; have X3 : Hid (Ext None_ w2 w3) := Lib.hid (Ext.ofBelow hb3); have e0 := X3.out.cell k0 (fun a => a); have e1 := X3.out.cell k1 (fun a => a); have e3 := X3.out.cell k3' (fun a => a); clear hb3 k0 k1 k2 k3' cf))
  obtain ⟨AN, hAN, hcut⟩ := HCUTS.out w2.heap.size
  have HCUT := Lib.hid hcut
  have HAN := Lib.hid hAN
  clear hcut hAN
  refine wp_region_last [sv _, sv _, sv _, sv (.slice AN (N - at_) (N - at_)), sv _, sv (.slice Au p.length cu)] (by kernel_rfl) rfl rfl rfl rfl rfl (by decide) ⟨
    (by
      intro Lq aq wq hd hj Kq hK
      rw [if_pos (wanted_none rfl)]
      have f8 := hj.base 8 rfl rfl
      exact opMove hK rfl (ev f8) rfl),
    (by
      intro Lq aq wq hd hj Kq hK
      rw [if_pos (wanted_none rfl)]
      have f3 := hj.base 3 rfl rfl
      exact opFieldA hK rfl (k := 1) (ev f3) (fun W => by kernel_rfl) rfl),
    (by
      intro Lq aq wq hd hj Kq hK
      rw [if_pos (wanted_none rfl)]
      have f58 := hj.val 1 58 rfl rfl (by simp) rfl (hd ⟨1, .data⟩ (by simp) rfl)
      first
        | exact opLoad hK rfl (ev f58) Try.underlying3 rfl (Ext.cell ((Ext.refl None_ w3).drew.trans0 hj.ext) e1 (fun a => a)) rfl
        | exact opLoad hK rfl (ev f58) Try.underlying3 rfl (Ext.cell ((Ext.refl None_ w3).drew.trans0 hj.ext) e3 (fun a => a)) rfl),
    (by
      intro Lq aq wq hd hj Kq hK
      rw [if_pos (wanted_none rfl)]
      have f57 := hj.val 0 57 rfl rfl (by simp) rfl (hd ⟨0, .data⟩ (by simp) rfl)
      have f59 := hj.val 2 59 rfl rfl (by simp) rfl (hd ⟨2, .data⟩ (by simp) rfl)
      exact opSliceOp hK rfl (ev f57) (by simp [ev f59]) rfl rfl Try.underlying22 HCUT.out rfl),
    (by
      intro Lq aq wq hd hj Kq hK
      rw [if_pos (wanted_none rfl)]
      have f3 := hj.base 3 rfl rfl
      exact opFieldA hK rfl (k := 3) (ev f3) (fun W => by kernel_rfl) rfl),
    (by
      intro Lq aq wq hd hj Kq hK
      rw [if_pos (wanted_none rfl)]
      have f61 := hj.val 4 61 rfl rfl (by simp) rfl (hd ⟨4, .data⟩ (by simp) rfl)
      first
        | exact opLoad hK rfl (ev f61) Try.underlying22 rfl (Ext.cell ((Ext.refl None_ w3).drew.trans0 hj.ext) e1 (fun a => a)) rfl
        | exact opLoad hK rfl (ev f61) Try.underlying22 rfl (Ext.cell ((Ext.refl None_ w3).drew.trans0 hj.ext) e3 (fun a => a)) rfl),
    trivial⟩ ?fin
  case fin =>
    intro vs9 w9 hx hg
    have v3 : vs9 3 = _ := hg 3 (by decide)
    have v5 : vs9 5 = _ := hg 5 (by decide)
    have X9 := Lib.hid ((Ext.refl None_ w3).drew.trans0 hx)
    clear hx hg
    simp only [List.dropLast, List.getLast?, List.getLast, Option.toList, putAll, v3, v5, Nat.reduceAdd, Nat.zero_add]
    simp only [Act.put, List.setIfInBounds_toArray, List.set_cons_succ, List.set_cons_zero]
    refine wpList_copy_splice rfl (.tmp 60) (.tmp 62) 22 22 rfl 5 Try.underlying22 (by kernel_rfl) AN Au (N - at_) (N - at_) p.length cu rfl rfl w2.heap.size at_ (splice Zs 0 X1) 5 (X9.out.get hw3.out (fun a => a)) X2 HMIN2.out (fun h => ⟨HAN.out h, HPOS2.out w9 ((HX2.out.trans0 X3.out).trans0 X9.out) h⟩) HFIT2.out HO2.out w2.heap.size w2 (Ext.below (X3.out.trans0 X9.out)) (Nat.le_refl _) ?_
    intro w4 hw4 hb4
    have X4 : Hid (Ext None_ w2 w4) := Lib.hid (Ext.ofBelow hb4)
    have HB4 := Lib.hid (HBO.out.ext X4.out (fun a => a))
    have f0 : w4.cell? ⟨w.heap.size, 0, none⟩ = some (.int .i64 n) := X4.out.cell (HBX.out.cell 0) (fun a => a)
    have hsz : n < cur.size := by
      have := congrArg List.length HTK.out
      rw [hlvs, List.length_take, show cur.toList.length = cur.size from Array.length_toList] at this
      omega
    have f1 : w4.cell? ⟨g2, n, none⟩ = some cur[n] := by rw [HB4.out.cell, Array.getElem?_eq_getElem hsz]
    have f2 : w4.frozen? ⟨g2, n, none⟩ = false := HB4.out.frozen n
    clear hb4 e0 e1 e3 hw3 X3 X9 v3 v5
    go_wp2_with fail
    go_ret
    have he := HE.out
    have hg2l := HBO.out.lt
    have ho : OwnB w4 (fun k => k = w2.heap.size) (.slice (some ⟨w2.heap.size, 0, none⟩) N N) (wrF l at_ p) := by
      unfold OwnB
      rw [he.1, he.2]
      exact Own.whole (by simp only [maxLen]; omega) (by rw [HL.out.2.2.2.2, Nat.mul_one]) hw4.out
    have hby : Byt (wrF l at_ p) := wrF_byt (by obtain ⟨_, _, _, _, _, _, q, _⟩ := H5.out; exact q) HUB.out
    obtain ⟨s1, s2, _, _⟩ := set_fin (fs := fs) (g2 := g2) (cap := cap2) (n := n) HV.out HVL.out (HX2.out.trans0 X4.out) HB4.out (by rw [← HLL.out]; exact HTK.out) (by omega) (by omega) hcm2 (by omega) (Sl.own ho hby (fun k _ h => ⟨by rw [h]; exact HX2.out.size, by omega⟩))
    refine ⟨_, rfl, ?_, s2⟩
    rw [← HLL.out, ← HLE.out] at *
    exact s1
set_option maxRecDepth 100000 in
set_option maxHeartbeats 8000000 in
theorem made_fit (w : World) (Z : Nat → Prop) (fv : Value) (fs : List (List Int)) (hf : RF w Z fv fs) (h64 : fs.length = 64) (hl : ∀ l ∈ fs, l.length ≤ 1048576) (n at_ : Nat) (hn : n < 64) (hat : at_ ≤ 1048576) (p : List Int) (hp : p.length ≤ 1048576) (u : Value) (hu : Sl w Z u p) (hk : at_ + p.length ≤ (fileAt fs n).length) :
    Calls Try.prog 83 #[fv, .agg #[.int .i64 n, .int .i64 at_, .int .i64 (-1), u]] w fun e w' => ∃ v', e = .returned v' ∧ RF w' (Zx w Z) v' (fs.set n (wrF (fileAt fs n) at_ p)) ∧ Ext None_ w w' := by
  obtain ⟨N, hN⟩ : ∃ N, N = (fileAt fs n).length := ⟨_, rfl⟩
  have hN0 : N = max (fileAt fs n).length (at_ + p.length) := by omega
  have hN3 : N ≤ 3145728 := by have := hl _ (fileAt_mem (fs := fs) (i := n) (by omega)); omega
  obtain ⟨Zs, hZ⟩ : ∃ Zs, Zs = List.replicate N (Value.int .u8 0) := ⟨_, rfl⟩
  have hMK : ∀ (W : World) {ops : Array Oper} {rest : List Oper} {o : Oper} {a : Act} {Q : Exit → Act → World → Prop} (hgd : o.guard = none) (x : Operand) (ho : o.op = .makeSlice 22 x x) (I : Int) (hx : a.eval x = .int .i64 I) (hI : I = N), wpList Try.prog ops Q rest (a.put o.dst (.slice (some ⟨W.heap.size, 0, none⟩) N N)) (W.alloc (.cells Zs.toArray 5)) → wpList Try.prog ops Q (o :: rest) a W := by
    intro W ops rest o a Q hgd x ho I hx hI h
    exact wpList_mk8 hgd x ho I N hx hI (by omega) (hZ ▸ h)
  have hZl : Zs.length = N := by rw [hZ]; simp
  obtain ⟨X1, hX1⟩ : ∃ X1, X1 = B8 (fileAt fs n) := ⟨_, rfl⟩
  obtain ⟨X2, hX2⟩ : ∃ X2, X2 = B8 p := ⟨_, rfl⟩
  have hX1l : X1.length = (fileAt fs n).length := by rw [hX1, B8_length]
  have hX2l : X2.length = p.length := by rw [hX2, B8_length]
  have hl1 : (splice Zs 0 X1).length = N := by rw [length_splice _ _ _ (by omega), hZl]
  have hl2 : (splice (splice Zs 0 X1) at_ X2).length = N := by rw [length_splice _ _ _ (by omega), hl1]
  have HE : Hid (B8 (wrF (fileAt fs n) at_ p) = splice (splice Zs 0 X1) at_ X2 ∧ (wrF (fileAt fs n) at_ p).length = N) := Lib.hid (by
    refine ⟨?_, by rw [wrF_length, hN0]⟩
    rw [wrF, B8_splice, B8_splice, B8_zeros, ← hN0, ← hZ, ← hX1, ← hX2])
  have HO1 : Hid (∀ v ∈ X1, v.oneCell' = true) := Lib.hid (hX1 ▸ B8_one _)
  have HO2 : Hid (∀ v ∈ X2, v.oneCell' = true) := Lib.hid (hX2 ▸ B8_one p)
  have HL := Lib.hid (And.intro hZl (And.intro hX1l (And.intro hX2l (And.intro hl1 hl2))))
  have HMIN : Hid (X1.length = Nat.min (fileAt fs n).length N) := Lib.hid (by rw [hX1l]; exact (Nat.min_eq_left (by omega)).symm)
  have HFIT : Hid (0 + X1.length ≤ Zs.length) := Lib.hid (by omega)
  have HMIN2 : Hid (X2.length = Nat.min p.length (N - at_)) := Lib.hid (by rw [hX2l]; exact (Nat.min_eq_left (by omega)).symm)
  have HFIT2 : Hid (at_ + X2.length ≤ (splice Zs 0 X1).length) := Lib.hid (by omega)
  have HCUTS : Hid (∀ gb : Nat, ∃ AN, (0 < X2.length → AN = some ⟨gb, at_, none⟩) ∧ ∀ W : World, (Instr.slice 22 (.slice (some ⟨gb, 0, none⟩) N N) (some (.int .i64 (at_ : Int))) none none).run Try.prog W = .ok (.slice AN (N - at_) (N - at_)) W) := Lib.hid (fun gb => by
    obtain ⟨AN, hAN, hcut⟩ := cut_l (P := Try.prog) 22 5 1 Try.underlying22 infoU8 (some ⟨gb, 0, none⟩) N N (at_ : Int) (by omega) (by omega) (Nat.le_refl _)
    rw [show (at_ : Int).toNat = at_ by omega] at hcut hAN
    exact ⟨AN, fun h => by
      rw [hAN, if_neg (by omega)]
      exact congrArg some ((add_plain _ _).trans (by rw [Nat.mul_one])), hcut⟩)
  have HMK := Lib.hid @hMK
  have HN := Lib.hid hN
  obtain ⟨b, cap, A, cc, h1, h2, h3, c0, h4, h5⟩ := hf.file (i := n) (by omega)
  obtain ⟨b', cap', vs, e1, k2, k3, hvl, hrow, hzb, hv⟩ := hf
  obtain ⟨Au, cu, rfl, hur, huc, hum, hub, hua⟩ := hu
  have hll := hl _ (fileAt_mem (fs := fs) (i := n) (by omega))
  subst h1
  cases e1
  have HPOS : Hid (∀ W2 : World, Ext None_ w W2 → 0 < X1.length → some (⟨W2.heap.size, 0, none⟩ : Addr) = some ⟨W2.heap.size, 0, none⟩ ∧ ∃ ad, A = some ad ∧ ∀ (j : Nat) v, X1[j]? = some v → (W2.alloc (.cells Zs.toArray 5)).cell? (ad.add j) = some v) := Lib.hid (fun W2 hx h => ⟨rfl, by
    have hrl : Row w A (B8 (fileAt fs n)) := by obtain ⟨_, _, e, q, _⟩ := h5; cases e; exact q
    rw [hX1] at h
    obtain ⟨ad, rfl⟩ := hrl.some h
    refine ⟨ad, rfl, fun j v hv => ?_⟩
    rw [hX1] at hv
    obtain ⟨ad', e, hc⟩ := (hrl.ext0 (hx.trans0 (x0 W2 _))) j v hv
    cases e
    exact hc⟩)
  have HPOS2 : Hid (∀ W : World, Ext None_ w W → 0 < X2.length → ∃ ad, Au = some ad ∧ ∀ (j : Nat) v, X2[j]? = some v → W.cell? (ad.add j) = some v) := Lib.hid (fun W hx h => by
    rw [hX2] at h
    obtain ⟨ad, rfl⟩ := hur.some h
    refine ⟨ad, rfl, fun j v hv => ?_⟩
    rw [hX2] at hv
    obtain ⟨ad', e, hc⟩ := (hur.ext0 hx) j v hv
    cases e
    exact hc)
  clear hN0 hMK hZ hZl hX1 hX2 hX1l hX2l hl1 hl2
  obtain ⟨l, hle⟩ : ∃ l, l = fileAt fs n := ⟨_, rfl⟩
  have HLE := Lib.hid hle
  rw [← hle] at HE HMIN HN hN c0 h4 h5 hll hk
  obtain ⟨L, hL⟩ : ∃ L, L = fs.length := ⟨_, rfl⟩
  have hlvs : vs.length = L := by rw [hL, hvl]
  have HV := Lib.hid hv
  have HROW := Lib.hid hrow
  have HVL := Lib.hid hvl
  have H5 := Lib.hid h5
  have HU := Lib.hid (And.intro hur hua)
  have HUB := Lib.hid hub
  have h64' : L = 64 := by omega
  have HLL := Lib.hid hL
  rw [← hL] at h2
  have hvs1 : ∀ x ∈ vs, x.oneCell' = true := fun x hx => by
    obtain ⟨i, hi⟩ := List.getElem?_of_mem hx
    have hlt := (List.getElem?_eq_some_iff.1 hi).1
    exact (hv i fs[i] x (List.getElem?_eq_getElem (by omega)) hi).one
  have HONE := Lib.hid hvs1
  rw [← hL]
  clear hv hrow hvl h5 hur hua hub hL hle hvs1 hl hzb hum k2
  subst h64'
  have HNL := Lib.hid hN
  have hNb : N ≤ 3145728 := hN3
  clear hN hN3
  go_enter Try.func83, Try.ntmps83
  go_wp2_with (first
    | (at_builtin; refine app rfl (.tmp 9) (.tmp 10) 59 rfl 22 _ 1 24 Try.underlying59 infoSlZ rfl (by decide) (by decide) _ (.slice (some ⟨w.heap.size + 1, 0, none⟩) 0 0) 0 [] rfl (own_made2 w _) (some ⟨b, 0, none⟩) 64 cap vs rfl (by omega) (HROW.out.ext0 ((x0 w _).trans0 (x0 _ _))) HONE.out (by omega) ?_; intro v' w2 ho hx; obtain ⟨g2, cap2, cur, rfl, HX2, HBX, HBO, hcap2, hcm2, HTK, hg2⟩ := made_app ho hx; have k0 := HBX.out.cell 0; have k1 := HBX.out.cell 1; have k2 := HBX.out.cell 2; have k3' := HBX.out.cell 3; have cf := HX2.out.cell c0 (fun a => a); clear ho hx c0)
    | (refine HMK.out _ rfl (.tmp 52) rfl _ rfl (by have := HN.out; omega) ?_)
    | (refine wpList_copy_splice rfl (.tmp 54) (.tmp 55) 22 22 rfl 5 Try.underlying22 (by kernel_rfl) (some ⟨w2.heap.size, 0, none⟩) A N N l.length cc rfl rfl w2.heap.size 0 Zs 5 (heap_alloc_new w2 _) X1 HMIN.out (HPOS.out w2 HX2.out) HFIT.out HO1.out w2.heap.size w2 (Ext.below ((Ext.refl None_ w2).alloc _)) (Nat.le_refl _) ?_; intro w3 hw3 hb3; have X3 : Hid (Ext None_ w2 w3) := Lib.hid (Ext.ofBelow hb3); have e0 := X3.out.cell k0 (fun a => a); have e1 := X3.out.cell k1 (fun a => a); have e3 := X3.out.cell k3' (fun a => a); clear hb3 k0 k1 k2 k3' cf))
  obtain ⟨AN, hAN, hcut⟩ := HCUTS.out w2.heap.size
  have HCUT := Lib.hid hcut
  have HAN := Lib.hid hAN
  clear hcut hAN
  refine wp_region_last [sv _, sv _, sv _, sv (.slice AN (N - at_) (N - at_)), sv _, sv (.slice Au p.length cu)] (by kernel_rfl) rfl rfl rfl rfl rfl (by decide) ⟨
    (by
      intro Lq aq wq hd hj Kq hK
      rw [if_pos (wanted_none rfl)]
      have f8 := hj.base 8 rfl rfl
      exact opMove hK rfl (ev f8) rfl),
    (by
      intro Lq aq wq hd hj Kq hK
      rw [if_pos (wanted_none rfl)]
      have f3 := hj.base 3 rfl rfl
      exact opFieldA hK rfl (k := 1) (ev f3) (fun W => by kernel_rfl) rfl),
    (by
      intro Lq aq wq hd hj Kq hK
      rw [if_pos (wanted_none rfl)]
      have f58 := hj.val 1 58 rfl rfl (by simp) rfl (hd ⟨1, .data⟩ (by simp) rfl)
      first
        | exact opLoad hK rfl (ev f58) Try.underlying3 rfl (Ext.cell ((Ext.refl None_ w3).drew.trans0 hj.ext) e1 (fun a => a)) rfl
        | exact opLoad hK rfl (ev f58) Try.underlying3 rfl (Ext.cell ((Ext.refl None_ w3).drew.trans0 hj.ext) e3 (fun a => a)) rfl),
    (by
      intro Lq aq wq hd hj Kq hK
      rw [if_pos (wanted_none rfl)]
      have f57 := hj.val 0 57 rfl rfl (by simp) rfl (hd ⟨0, .data⟩ (by simp) rfl)
      have f59 := hj.val 2 59 rfl rfl (by simp) rfl (hd ⟨2, .data⟩ (by simp) rfl)
      exact opSliceOp hK rfl (ev f57) (by simp [ev f59]) rfl rfl Try.underlying22 HCUT.out rfl),
    (by
      intro Lq aq wq hd hj Kq hK
      rw [if_pos (wanted_none rfl)]
      have f3 := hj.base 3 rfl rfl
      exact opFieldA hK rfl (k := 3) (ev f3) (fun W => by kernel_rfl) rfl),
    (by
      intro Lq aq wq hd hj Kq hK
      rw [if_pos (wanted_none rfl)]
      have f61 := hj.val 4 61 rfl rfl (by simp) rfl (hd ⟨4, .data⟩ (by simp) rfl)
      first
        | exact opLoad hK rfl (ev f61) Try.underlying22 rfl (Ext.cell ((Ext.refl None_ w3).drew.trans0 hj.ext) e1 (fun a => a)) rfl
        | exact opLoad hK rfl (ev f61) Try.underlying22 rfl (Ext.cell ((Ext.refl None_ w3).drew.trans0 hj.ext) e3 (fun a => a)) rfl),
    trivial⟩ ?fin
  case fin =>
    intro vs9 w9 hx hg
    have v3 : vs9 3 = _ := hg 3 (by decide)
    have v5 : vs9 5 = _ := hg 5 (by decide)
    have X9 := Lib.hid ((Ext.refl None_ w3).drew.trans0 hx)
    clear hx hg
    simp only [List.dropLast, List.getLast?, List.getLast, Option.toList, putAll, v3, v5, Nat.reduceAdd, Nat.zero_add]
    simp only [Act.put, List.setIfInBounds_toArray, List.set_cons_succ, List.set_cons_zero]
    refine wpList_copy_splice rfl (.tmp 60) (.tmp 62) 22 22 rfl 5 Try.underlying22 (by kernel_rfl) AN Au (N - at_) (N - at_) p.length cu rfl rfl w2.heap.size at_ (splice Zs 0 X1) 5 (X9.out.get hw3.out (fun a => a)) X2 HMIN2.out (fun h => ⟨HAN.out h, HPOS2.out w9 ((HX2.out.trans0 X3.out).trans0 X9.out) h⟩) HFIT2.out HO2.out w2.heap.size w2 (Ext.below (X3.out.trans0 X9.out)) (Nat.le_refl _) ?_
    intro w4 hw4 hb4
    have X4 : Hid (Ext None_ w2 w4) := Lib.hid (Ext.ofBelow hb4)
    have HB4 := Lib.hid (HBO.out.ext X4.out (fun a => a))
    have f0 : w4.cell? ⟨w.heap.size, 0, none⟩ = some (.int .i64 n) := X4.out.cell (HBX.out.cell 0) (fun a => a)
    have hsz : n < cur.size := by
      have := congrArg List.length HTK.out
      rw [hlvs, List.length_take, show cur.toList.length = cur.size from Array.length_toList] at this
      omega
    have f1 : w4.cell? ⟨g2, n, none⟩ = some cur[n] := by rw [HB4.out.cell, Array.getElem?_eq_getElem hsz]
    have f2 : w4.frozen? ⟨g2, n, none⟩ = false := HB4.out.frozen n
    clear hb4 e0 e1 e3 hw3 X3 X9 v3 v5
    go_wp2_with fail
    go_ret
    have he := HE.out
    have hg2l := HBO.out.lt
    have ho : OwnB w4 (fun k => k = w2.heap.size) (.slice (some ⟨w2.heap.size, 0, none⟩) N N) (wrF l at_ p) := by
      unfold OwnB
      rw [he.1, he.2]
      exact Own.whole (by simp only [maxLen]; omega) (by rw [HL.out.2.2.2.2, Nat.mul_one]) hw4.out
    have hby : Byt (wrF l at_ p) := wrF_byt (by obtain ⟨_, _, _, _, _, _, q, _⟩ := H5.out; exact q) HUB.out
    obtain ⟨s1, s2, _, _⟩ := set_fin (fs := fs) (g2 := g2) (cap := cap2) (n := n) HV.out HVL.out (HX2.out.trans0 X4.out) HB4.out (by rw [← HLL.out]; exact HTK.out) (by omega) (by omega) hcm2 (by omega) (Sl.own ho hby (fun k _ h => ⟨by rw [h]; exact HX2.out.size, by omega⟩))
    refine ⟨_, rfl, ?_, s2⟩
    rw [← HLL.out, ← HLE.out] at *
    exact s1
/-- Files behind a change. -/
theorem made_any (w : World) (Z : Nat → Prop) (fv : Value) (fs : List (List Int)) (hf : RF w Z fv fs) (h64 : fs.length = 64) (hl : ∀ l ∈ fs, l.length ≤ 1048576) (c : Chg) (hc : c.ok) (n x1 x2 : Int) (hn : n = c.file) (h1 : x1 = if c.cut = true then 0 else (c.at_ : Int)) (h2 : x2 = if c.cut = true then (c.at_ : Int) else -1) (u : Value) (hu : Sl w Z u c.p) :
    Calls Try.prog 83 #[fv, .agg #[.int .i64 n, .int .i64 x1, .int .i64 x2, u]] w fun e w' => ∃ v', e = .returned v' ∧ RF w' (Zx w Z) v' (stepF fs c) ∧ Ext None_ w w' := by
  obtain ⟨cut, f, a, p⟩ := c
  obtain ⟨hc1, hc2⟩ := hc
  simp only at hc1 hc2 hn h1 h2 hu
  subst hn
  unfold stepF
  simp only
  cases cut with
  | true =>
    rw [if_pos rfl] at h1 h2 ⊢
    subst h1 h2
    by_cases hk : a < (fileAt fs f).length
    · rw [if_pos hk]
      exact made_cut w Z fv fs hf h64 hl f a hc1 (by omega) p (by omega) u hu hk
    · rw [if_neg hk]
      exact made_keep w Z fv fs hf h64 hl f a hc1 (by omega) p (by omega) u hu (by omega)
  | false =>
    rw [if_neg (by decide)] at h1 h2 ⊢
    subst h1 h2
    by_cases hk : (fileAt fs f).length < a + p.length
    · exact made_long w Z fv fs hf h64 hl f a hc1 (by omega) p (by omega) u hu hk
    · exact made_fit w Z fv fs hf h64 hl f a hc1 (by omega) p (by omega) u hu (by omega)
end Go.Proofs.Ytakcdmmniaipeaa
