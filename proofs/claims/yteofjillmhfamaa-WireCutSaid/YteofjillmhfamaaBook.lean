/- draybook, walked: lists compared, lists with room, numbers brought into bounds. -/
import Derived.Test.YteofjillmhfamaaRef3w
import Derived.Laws.IdiomCopy
import Derived.Laws.CopyOwn
import Derived.Lib.AppendStr
import Derived.Deep.RegionWith
import Derived.Laws.BytesArg
set_option linter.unusedVariables false
set_option linter.unusedSimpArgs false
namespace Go.Proofs.Yteofjillmhfamaa
open Go.RowKit B










set_option maxRecDepth 100000 in
theorem same_any (A1 : Option Addr) (c1 : Nat) (l : List Int) (A2 : Option Addr) (c2 : Nat) (m : List Int) (w : World) (h1 : Row w A1 (B8 l)) (h2 : Row w A2 (B8 m)) (hl : l.length ≤ 225000000000000) (hm : m.length ≤ 225000000000000) :
    Calls Try.prog 9 #[.slice A1 l.length c1, .slice A2 m.length c2] w fun e w' => e = .returned (.bool (decide (l = m))) ∧ Ext None_ w w' := by
  have H1 := Lib.hid h1
  have H2 := Lib.hid h2
  clear h1 h2
  by_cases hlm : l.length = m.length
  · go_enter Try.func9, Try.ntmps9
    have hb : ((l.length : Int) != m.length) = false := by simp [hlm]
    have hb' : ((l.length : Int) == m.length) = true := by simp [hlm]
    have HLM := Lib.hid hlm
    clear hlm
    go_wp2
    go_loopw [5] (fun v5 wr => ∃ i : Nat, v5 = .int .i64 i ∧ i ≤ l.length ∧ Hid (l.take i = m.take i) ∧ Hid (Ext None_ w wr)) (fun v5 _ => l.length - (intOf v5).toNat)
    case atStart => exact ⟨0, rfl, by omega, Lib.hid (by simp), Lib.hid (Ext.refl _ _)⟩
    case round =>
      obtain ⟨i, rfl, hi, ht, hx⟩ := hrel
      by_cases hlt : i < l.length
      · have hltm : i < m.length := by have := HLM.out; omega
        obtain ⟨x, hxe⟩ : ∃ x, x = l[i] := ⟨_, rfl⟩
        obtain ⟨y, hye⟩ : ∃ y, y = m[i] := ⟨_, rfl⟩
        obtain ⟨a1, rfl, hc1⟩ := H1.out i (.int .u8 x) (by simp [B8, hxe])
        obtain ⟨a2, rfl, hc2⟩ := H2.out i (.int .u8 y) (by simp [B8, hye])
        have hd1 := hx.out.cell hc1 (fun a => a)
        have hd2 := hx.out.cell hc2 (fun a => a)
        clear hc1 hc2
        by_cases hxy : x = y
        · have HN : Hid (l.take (i + 1) = m.take (i + 1)) := Lib.hid (by
            rw [List.take_succ_eq_append_getElem hlt, List.take_succ_eq_append_getElem hltm, ← hxe, ← hye, ht.out, hxy])
          have hb2 : (x != y) = false := by simp [hxy]
          have hb3 : (x == y) = true := by simp [hxy]
          clear hxy hxe hye
          go_wp2
          go_quiet (fail)
          go_wp2
          go_roundw
          case rel => exact ⟨i + 1, by go_num, by omega, HN, Lib.hid (hx.out.drewN _)⟩
          case measure => simp [intOf]; omega
        · have HN : Hid (decide (l = m) = false) := Lib.hid (by
            rw [decide_eq_false_iff_not]
            intro e
            apply hxy
            rw [hxe, hye]
            simp [e])
          have hb2 : (x != y) = true := by simp [hxy]
          have hb3 : (x == y) = false := by simp [hxy]
          clear hxy hxe hye
          go_wp2
          go_quiet (fail)
          go_wp2
          go_ret
          exact ⟨by rw [HN.out]; rfl, hx.out.drewN _⟩
      · have he : i = l.length := by omega
        have HN : Hid (decide (l = m) = true) := Lib.hid (by
          rw [decide_eq_true_iff]
          have h := ht.out
          rw [he, List.take_length, HLM.out, List.take_length] at h
          exact h)
        subst he
        go_wp2
        go_ret
        exact ⟨by rw [HN.out]; rfl, hx.out⟩
  · have hn : decide (l = m) = false := by
      rw [decide_eq_false_iff_not]
      intro e
      exact hlm (by rw [e])
    rw [hn]
    have hb : ((l.length : Int) != m.length) = true := by simp; omega
    have hb' : ((l.length : Int) == m.length) = false := by simp; omega
    clear hlm hn
    go_enter Try.func9, Try.ntmps9
    go_wp2
    go_ret
    exact ⟨rfl, Ext.refl _ _⟩

set_option maxRecDepth 100000 in
theorem sameI_any (A1 : Option Addr) (c1 : Nat) (l : List Int) (A2 : Option Addr) (c2 : Nat) (m : List Int) (w : World) (h1 : Row w A1 (I8 l)) (h2 : Row w A2 (I8 m)) (hl : l.length ≤ 225000000000000) (hm : m.length ≤ 225000000000000) :
    Calls Try.prog 22 #[.slice A1 l.length c1, .slice A2 m.length c2] w fun e w' => e = .returned (.bool (decide (l = m))) ∧ Ext None_ w w' := by
  have H1 := Lib.hid h1
  have H2 := Lib.hid h2
  clear h1 h2
  by_cases hlm : l.length = m.length
  · go_enter Try.func22, Try.ntmps22
    have hb : ((l.length : Int) != m.length) = false := by simp [hlm]
    have hb' : ((l.length : Int) == m.length) = true := by simp [hlm]
    have HLM := Lib.hid hlm
    clear hlm
    go_wp2
    go_loopw [5] (fun v5 wr => ∃ i : Nat, v5 = .int .i64 i ∧ i ≤ l.length ∧ Hid (l.take i = m.take i) ∧ Hid (Ext None_ w wr)) (fun v5 _ => l.length - (intOf v5).toNat)
    case atStart => exact ⟨0, rfl, by omega, Lib.hid (by simp), Lib.hid (Ext.refl _ _)⟩
    case round =>
      obtain ⟨i, rfl, hi, ht, hx⟩ := hrel
      by_cases hlt : i < l.length
      · have hltm : i < m.length := by have := HLM.out; omega
        obtain ⟨x, hxe⟩ : ∃ x, x = l[i] := ⟨_, rfl⟩
        obtain ⟨y, hye⟩ : ∃ y, y = m[i] := ⟨_, rfl⟩
        obtain ⟨a1, rfl, hc1⟩ := H1.out i (.int .i64 x) (by simp [I8, hxe])
        obtain ⟨a2, rfl, hc2⟩ := H2.out i (.int .i64 y) (by simp [I8, hye])
        have hd1 := hx.out.cell hc1 (fun a => a)
        have hd2 := hx.out.cell hc2 (fun a => a)
        clear hc1 hc2
        by_cases hxy : x = y
        · have HN : Hid (l.take (i + 1) = m.take (i + 1)) := Lib.hid (by
            rw [List.take_succ_eq_append_getElem hlt, List.take_succ_eq_append_getElem hltm, ← hxe, ← hye, ht.out, hxy])
          have hb2 : (x != y) = false := by simp [hxy]
          have hb3 : (x == y) = true := by simp [hxy]
          clear hxy hxe hye
          go_wp2
          go_quiet (fail)
          go_wp2
          go_roundw
          case rel => exact ⟨i + 1, by go_num, by omega, HN, Lib.hid (hx.out.drewN _)⟩
          case measure => simp [intOf]; omega
        · have HN : Hid (decide (l = m) = false) := Lib.hid (by
            rw [decide_eq_false_iff_not]
            intro e
            apply hxy
            rw [hxe, hye]
            simp [e])
          have hb2 : (x != y) = true := by simp [hxy]
          have hb3 : (x == y) = false := by simp [hxy]
          clear hxy hxe hye
          go_wp2
          go_quiet (fail)
          go_wp2
          go_ret
          exact ⟨by rw [HN.out]; rfl, hx.out.drewN _⟩
      · have he : i = l.length := by omega
        have HN : Hid (decide (l = m) = true) := Lib.hid (by
          rw [decide_eq_true_iff]
          have h := ht.out
          rw [he, List.take_length, HLM.out, List.take_length] at h
          exact h)
        subst he
        go_wp2
        go_ret
        exact ⟨by rw [HN.out]; rfl, hx.out⟩
  · have hn : decide (l = m) = false := by
      rw [decide_eq_false_iff_not]
      intro e
      exact hlm (by rw [e])
    rw [hn]
    have hb : ((l.length : Int) != m.length) = true := by simp; omega
    have hb' : ((l.length : Int) == m.length) = false := by simp; omega
    clear hlm hn
    go_enter Try.func22, Try.ntmps22
    go_wp2
    go_ret
    exact ⟨rfl, Ext.refl _ _⟩

def within (n lo hi : Int) : Int := lo + n % (hi - lo + 1)
theorem tmod_cases (n d : Int) (hd : 0 < d) : -d < n.tmod d ∧ n.tmod d < d ∧ n % d = if n.tmod d < 0 then n.tmod d + d else n.tmod d := by
  have h1 := Int.tmod_lt_of_pos n hd
  have h2 : -d < n.tmod d := by
    have := Int.lt_tmod_of_pos n hd
    exact this
  refine ⟨h2, h1, ?_⟩
  have he : n % d = (n.tmod d) % d := by
    rw [← Int.emod_emod_of_dvd n (Int.dvd_refl d)]
    have := Int.mul_tdiv_add_tmod n d
    conv => lhs; rw [← this]
    simp
  rw [he]
  split
  · rw [← Int.add_emod_right, Int.emod_eq_of_lt (by omega) (by omega)]
  · rw [Int.emod_eq_of_lt (by omega) h1]
theorem within_any (n lo hi : Int) (w : World) (hn : I64 n) (h0 : 0 ≤ lo) (h1 : lo ≤ hi) (h2 : hi ≤ 225000000000000) :
    Calls Try.prog 31 #[.int .i64 n, .int .i64 lo, .int .i64 hi] w fun e w' => e = .returned (.int .i64 (within n lo hi)) ∧ w = w' := by
  obtain ⟨hn1, hn2⟩ := hn
  have hd : 0 < hi - lo + 1 := by omega
  obtain ⟨t1, t2, t3⟩ := tmod_cases n (hi - lo + 1) hd
  by_cases hneg : n < 0
  · by_cases hz : n.tmod (hi - lo + 1) < 0
    · have HE : Hid (within n lo hi = lo + (n.tmod (hi - lo + 1) + hi - lo + 1)) := Lib.hid (by unfold within; rw [t3, if_pos hz]; omega)
      clear t3
      go_enter Try.func31, Try.ntmps31
      go_wp2
      go_ret
      exact ⟨ret_ (by rw [HE.out]), rfl⟩
    · have HE : Hid (within n lo hi = lo + n.tmod (hi - lo + 1)) := Lib.hid (by unfold within; rw [t3, if_neg hz])
      clear t3
      go_enter Try.func31, Try.ntmps31
      go_wp2
      go_ret
      exact ⟨ret_ (by rw [HE.out]), rfl⟩
  · have hn0 : 0 ≤ n := by omega
    have he1 := Int.emod_nonneg n (show hi - lo + 1 ≠ 0 by omega)
    have he2 := Int.emod_lt_of_pos n hd
    clear t1 t2 t3 hneg
    go_enter Try.func31, Try.ntmps31
    go_wp2
    go_ret
    exact ⟨ret_ rfl, rfl⟩
def mark80 (l : List Int) (a : Int) : List Int := l ++ List.replicate 80 a
theorem mark80_length (l : List Int) (a : Int) : (mark80 l a).length = l.length + 80 := by simp [mark80]
def midR (l : List Int) (a : Int) (j : Nat) : List Int := l ++ (List.replicate j a ++ List.replicate (80 - j) 0)
theorem midR_length (l : List Int) (a : Int) (j : Nat) (h : j ≤ 80) : (midR l a j).length = l.length + 80 := by simp [midR]; omega
theorem midR_set (l : List Int) (a : Int) (j : Nat) (h : j < 80) : (midR l a j).set (l.length + j) a = midR l a (j + 1) := by
  unfold midR
  rw [List.set_append_right _ _ (by omega), show l.length + j - l.length = j by omega, List.set_append_right _ _ (by simp), List.length_replicate, Nat.sub_self,
    show 80 - j = (80 - (j + 1)) + 1 by omega, List.replicate_succ, List.set_cons_zero, List.replicate_succ', List.append_assoc]
  rfl
theorem B8_set (l : List Int) (i : Nat) (x : Int) : B8 (l.set i x) = (B8 l).set i (.int .u8 x) := by simp [B8, List.map_set]
set_option maxRecDepth 100000 in
set_option maxHeartbeats 1000000 in
theorem roomy_any (A : Option Addr) (c : Nat) (l : List Int) (a : Int) (w : World) (hrow : Row w A (B8 l)) (hlen : l.length + 80 ≤ 225000000000000) :
    Calls Try.prog 16 #[.slice A l.length c, .int .u8 a] w fun e w' => e = .returned (.slice (some ⟨w.heap.size, 0, none⟩) (l.length + 80) (l.length + 80)) ∧ Blk w' w.heap.size (B8 (mark80 l a)).toArray 5 ∧ Ext None_ w w' := by
  obtain ⟨i0, hi, hz0, hz1, hz2⟩ := info_parts infoU8
  have hmk : ∀ W : World, (Instr.makeSlice 23 (.int .i64 ((l.length : Int) + 80)) (.int .i64 ((l.length : Int) + 80))).run Try.prog W = .ok (.slice (some ⟨W.heap.size, 0, none⟩) (l.length + 80) (l.length + 80)) (W.alloc (.cells (madeCells (Value.int .u8 0).cells ((l.length + 80) * 1)) 5)) := by
    intro W
    have hr := run_make (P := Try.prog) W 23 5 i0 (.int .u8 0) Try.underlying23 hi hz0 .i64 .i64 ((l.length : Int) + 80) ((l.length : Int) + 80) (by omega) (Int.le_refl _) (by rw [hz2]; omega) (by omega)
    rw [hz1, show ((l.length : Int) + 80).toNat = l.length + 80 by omega] at hr
    exact hr
  clear hi hz0 hz1 hz2 i0
  obtain ⟨cur0, hcur0⟩ : ∃ cc, cc = List.replicate (l.length + 80) (Value.int .u8 0) := ⟨_, rfl⟩
  have hcl : cur0.length = l.length + 80 := by rw [hcur0]; simp
  have HBLK : Hid ((w.alloc (.cells (madeCells #[Value.int .u8 0] (l.length + 80)) 5)).heap[w.heap.size]? = some (.cells cur0.toArray 5 (0, 0))) := Lib.hid (by
    rw [heap_alloc_new, hcur0]
    congr 2
    apply Array.ext'
    rw [toList_madeCells_one])
  have HPOS : Hid (0 < (B8 l).length → some (⟨w.heap.size, 0, none⟩ : Addr) = some ⟨w.heap.size, 0, none⟩ ∧ ∃ ad, A = some ad ∧ ∀ j v, (B8 l)[j]? = some v → (w.alloc (.cells (madeCells #[Value.int .u8 0] (l.length + 80)) 5)).cell? (ad.add j) = some v) := Lib.hid (by
    intro hpos
    obtain ⟨ad, rfl⟩ := hrow.some hpos
    refine ⟨rfl, ad, rfl, fun j v hv => ?_⟩
    obtain ⟨ad', e, hc⟩ := hrow j v hv
    cases e
    exact ((Ext.refl None_ w).alloc _).cell hc (fun a => a))
  have HFIT : Hid (0 + (B8 l).length ≤ cur0.length) := Lib.hid (by rw [B8_length, hcl]; omega)
  have HMIN : Hid ((B8 l).length = Nat.min l.length (l.length + 80)) := Lib.hid (by rw [B8_length]; exact (Nat.min_eq_left (by omega)).symm)
  have HSP : Hid (splice cur0 0 (B8 l) = B8 (midR l a 0)) := Lib.hid (by
    rw [hcur0]
    simp [splice, midR, B8, List.drop_replicate])
  clear hrow hcl hcur0
  go_enter Try.func16, Try.ntmps16
  go_wp2_with (refine wpList_copy_splice rfl (.tmp 11) (.tmp 12) 23 23 rfl 5 Try.underlying23 (by kernel_rfl) (some ⟨w.heap.size, 0, none⟩) A (l.length + 80) (l.length + 80) l.length c rfl rfl w.heap.size 0 cur0 5 HBLK.out (B8 l) HMIN.out HPOS.out HFIT.out (B8_one l) w.heap.size w (((Ext.refl None_ w).alloc _).below) (Nat.le_refl _) ?_; intro w1 hw1 hb1; have HB1 := Lib.hid hb1; have HW1 := Lib.hid hw1; clear hb1 hmk hw1)
  go_loopw [6] (fun v6 wr => ∃ j : Nat, j ≤ 80 ∧ v6 = .int .i64 ((l.length : Int) + j) ∧ Hid (Blk wr w.heap.size (B8 (midR l a j)).toArray 5) ∧ Hid (Ext None_ w wr)) (fun v6 _ => l.length + 80 - (intOf v6).toNat)
  case atStart => exact ⟨0, by omega, by go_num, Lib.hid (by rw [← HSP.out]; exact HW1.out), Lib.hid (Ext.ofBelow HB1.out)⟩
  case round =>
    obtain ⟨j, hj, rfl, hh, hbw⟩ := hrel
    by_cases hlt : j < 80
    · have hcell := hh.out.cell (l.length + j)
      have hfro := hh.out.frozen (l.length + j)
      have hlen2 := midR_length l a j hj
      obtain ⟨x, hx⟩ : ∃ x, (B8 (midR l a j)).toArray[l.length + j]? = some x := ⟨_, Array.getElem?_eq_getElem (by simp [B8_length, hlen2]; omega)⟩
      rw [hx] at hcell
      clear hx hlen2
      go_wp2_with fail
      go_roundw
      case rel =>
        refine ⟨j + 1, by omega, by go_num, Lib.hid ?_, Lib.hid (hbw.out.setCell (.inr (Nat.le_refl _)) _)⟩
        have := hh.out.set (l.length + j) (.int .u8 a)
        rw [List.setIfInBounds_toArray, ← B8_set, midR_set l a j hlt] at this
        exact this
      case measure => simp [intOf]; omega
    · have he : j = 80 := by omega
      subst he
      go_wp2_with fail
      go_ret
      refine ⟨rfl, ?_, hbw.out⟩
      have := hh.out
      unfold midR at this
      unfold mark80
      simpa using this

theorem intact_eq (f u : List Int) (a : Int) : (f = mark80 u a) ↔ (f.length = u.length + 80 ∧ f.take u.length = u ∧ f.drop u.length = List.replicate 80 a) := by
  unfold mark80
  constructor
  · rintro rfl
    simp
  · rintro ⟨h1, h2, h3⟩
    rw [← List.take_append_drop u.length f, h2, h3]
set_option maxRecDepth 100000 in
set_option maxHeartbeats 1000000 in
theorem intact_any (A1 : Option Addr) (c1 : Nat) (f : List Int) (A2 : Option Addr) (c2 : Nat) (u : List Int) (a : Int) (w : World) (h1 : Row w A1 (B8 f)) (h2 : Row w A2 (B8 u)) (hc1 : f.length ≤ c1) (hl : f.length ≤ 225000000000000) (hm : u.length ≤ 225000000000000) :
    Calls Try.prog 18 #[.slice A1 f.length c1, .slice A2 u.length c2, .int .u8 a] w fun e w' => e = .returned (.bool (decide (f = mark80 u a))) ∧ Ext None_ w w' := by
  have H1 := Lib.hid h1
  have H2 := Lib.hid h2
  clear h1 h2
  by_cases hlm : f.length = u.length + 80
  · obtain ⟨A', hA', hcut⟩ := cut_h (P := Try.prog) 23 5 1 Try.underlying23 infoU8 A1 f.length c1 (u.length : Int) (by omega) (by omega)
    have HT : Hid (Row w A' (B8 (f.take u.length))) := Lib.hid (by
      have := cut_row (lo := 0) (hi := u.length) (size := 1) H1.out hA' (by rw [B8_length]; omega)
      simpa [B8, List.map_take] using this)
    have HTL : Hid ((f.take u.length).length = u.length) := Lib.hid (by rw [List.length_take]; omega)
    have hsame := same_any A' c1 (f.take u.length) A2 c2 u w HT.out H2.out (by rw [HTL.out]; omega) hm
    rw [HTL.out] at hsame
    have HSAME := Lib.hid hsame
    clear hsame hA'
    have hb : ((f.length : Int) != (u.length : Int) + 80) = false := by simp; omega
    have hb' : ((f.length : Int) == (u.length : Int) + 80) = true := by simp; omega
    have HLM := Lib.hid hlm
    clear hlm
    by_cases heq : f.take u.length = u
    · have HEQ := Lib.hid heq
      have hd : decide (f.take u.length = u) = true := by simp [heq]
      have HD := Lib.hid hd
      clear heq hd
      go_enter Try.func18, Try.ntmps18
      go_wp2_with (go_at_call 9; refine HSAME.out.mono ?_; rintro e w1 ⟨rfl, hx1⟩; rw [HD.out]; have HX1 := Lib.hid hx1; clear hx1)
      go_loopw [7] (fun v7 wr => ∃ i : Nat, v7 = .int .i64 ((u.length : Int) + i) ∧ i ≤ 80 ∧ Hid ((f.drop u.length).take i = List.replicate i a) ∧ Hid (Ext None_ w wr)) (fun v7 _ => f.length - (intOf v7).toNat)
      case atStart => exact ⟨0, by go_num, by omega, Lib.hid (by simp), HX1⟩
      case round =>
        obtain ⟨i, rfl, hi, ht, hx⟩ := hrel
        by_cases hlt : i < 80
        · have hfl : u.length + i < f.length := by have := HLM.out; omega
          obtain ⟨x, hxe⟩ : ∃ x, x = f[u.length + i] := ⟨_, rfl⟩
          obtain ⟨a1, rfl, hc1'⟩ := H1.out (u.length + i) (.int .u8 x) (by simp [B8, hxe])
          have hd1 := hx.out.cell hc1' (fun a => a)
          have hfl2 : (u.length : Int) + i < f.length := by omega
          clear hc1'
          by_cases hxy : x = a
          · have HN : Hid ((f.drop u.length).take (i + 1) = List.replicate (i + 1) a) := Lib.hid (by
              rw [List.take_succ_eq_append_getElem (by rw [List.length_drop]; omega), ht.out, List.getElem_drop, ← hxe, hxy, List.replicate_succ'])
            have hb2 : (x != a) = false := by simp [hxy]
            have hb3 : (x == a) = true := by simp [hxy]
            clear hxy hxe
            go_wp2
            go_roundw
            case rel => exact ⟨i + 1, by go_num, by omega, HN, hx⟩
            case measure => simp [intOf]; omega
          · have HN : Hid (decide (f = mark80 u a) = false) := Lib.hid (by
              rw [decide_eq_false_iff_not, intact_eq]
              rintro ⟨_, _, h3⟩
              apply hxy
              have h4 : (f.drop u.length)[i]? = some a := by rw [h3, List.getElem?_replicate, if_pos hlt]
              rw [List.getElem?_drop, List.getElem?_eq_getElem hfl] at h4
              rw [hxe]
              exact Option.some.inj h4)
            have hb2 : (x != a) = true := by simp [hxy]
            have hb3 : (x == a) = false := by simp [hxy]
            clear hxy hxe
            go_wp2
            go_ret
            exact ⟨by rw [HN.out]; rfl, hx.out⟩
        · have he : i = 80 := by omega
          subst he
          have HN : Hid (decide (f = mark80 u a) = true) := Lib.hid (by
            rw [decide_eq_true_iff, intact_eq]
            refine ⟨HLM.out, HEQ.out, ?_⟩
            have h := ht.out
            rwa [List.take_of_length_le (by rw [List.length_drop]; have := HLM.out; omega)] at h)
          have hge : (f.length : Int) ≤ (u.length : Int) + 80 := by have := HLM.out; omega
          go_wp2
          go_ret
          exact ⟨by rw [HN.out]; rfl, hx.out⟩
    · have hn : decide (f = mark80 u a) = false := by
        rw [decide_eq_false_iff_not, intact_eq]
        exact fun h => heq h.2.1
      rw [hn]
      have HD : Hid (decide (f.take u.length = u) = false) := Lib.hid (by simp [heq])
      clear heq hn
      go_enter Try.func18, Try.ntmps18
      go_wp2_with (go_at_call 9; refine HSAME.out.mono ?_; rintro e w1 ⟨rfl, hx1⟩; rw [HD.out]; have HX1 := Lib.hid hx1; clear hx1)
      go_ret
      exact ⟨rfl, HX1.out⟩
  · have hn : decide (f = mark80 u a) = false := by
      rw [decide_eq_false_iff_not, intact_eq]
      exact fun h => hlm h.1
    rw [hn]
    have hb : ((f.length : Int) != (u.length : Int) + 80) = true := by simp; omega
    have hb' : ((f.length : Int) == (u.length : Int) + 80) = false := by simp; omega
    clear hlm hn
    go_enter Try.func18, Try.ntmps18
    go_wp2
    go_ret
    exact ⟨rfl, Ext.refl _ _⟩
end Go.Proofs.Yteofjillmhfamaa
