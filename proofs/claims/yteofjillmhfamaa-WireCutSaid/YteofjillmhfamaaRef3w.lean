/- drayref3, walked: the reference's writers. -/
import Derived.Test.YteofjillmhfamaaRef3c
import Derived.Lib.AppendStr
import Derived.Deep.RegionWith
import Derived.Laws.BytesArg
set_option linter.unusedVariables false
set_option linter.unusedSimpArgs false
namespace Go.Proofs.Yteofjillmhfamaa
open Go.RowKit B









theorem made0 (w : World) : OwnB (w.alloc (.cells #[] 5)) (fun k => w.heap.size ≤ k) (.slice (some ⟨w.heap.size, 0, none⟩) 0 0) [] :=
  OwnB.mono (ok := fun k => k = w.heap.size) (Own.made w #[] 0 (by simp [maxLen]) rfl) (fun k _ e => by omega)
set_option maxRecDepth 100000 in
theorem rwNum_any (A : Option Addr) (c : Nat) (l : List Int) (n : Int) (w : World) (hn : I64 n) (hrow : Row w A (B8 l)) (hlen : l.length + 10 ≤ 225000000000000) :
    Calls Try.prog 39 #[.slice A l.length c, .int .i64 n] w fun e w' => ∃ v', e = .returned v' ∧ OwnB w' (fun k => w.heap.size ≤ k) v' (l ++ enc n) ∧ Ext None_ w w' := by
  have HR := Lib.hid hrow
  have HZ := Lib.hid (zig_lt n hn)
  obtain ⟨E, hE⟩ : ∃ E, E = enc n := ⟨_, rfl⟩
  have HEL : E.length ≤ 10 := by rw [hE]; exact (enc_length n).2
  rw [← hE]
  have HG := Lib.hid hE
  clear hE hrow
  by_cases h0 : n < 0
  · have hz := zig_neg n hn h0
    go_enter Try.func39, Try.ntmps39
    go_wp2_with (at_builtin; refine app8 rfl (.tmp 7) (.tmp 8) rfl _ [] l A c rfl rfl (made0 _) (HR.out.ext0 ((Ext.refl _ _).alloc _)) (by simp; omega) ?_; intro v1 w1 ho1 hx1; have HO1 := Lib.hid (OwnB.late (made0 _) (by simp) ho1); have HX1 : Hid (Ext None_ w w1) := Lib.hid (ext_late (made0 _) (fun k h => h) ((Ext.refl _ _).alloc _) hx1); clear ho1 hx1)
    clear hz
    go_loopw [5, 6] (fun v0 v5 wr => ∃ (u : Nat) (done : List Int), v5 = .int .u64 u ∧ Hid (u < 18446744073709551616) ∧ Hid (E = done ++ grp u) ∧ Hid (OwnB wr (fun k => w.heap.size ≤ k) v0 (l ++ done)) ∧ Hid (Ext None_ w wr)) (fun _ v5 _ => (intOf v5).toNat)
    case atStart => exact ⟨zig n, [], rfl, HZ, Lib.hid HG.out, Lib.hid (by simpa using HO1.out), HX1⟩
    case round =>
      obtain ⟨u, done, rfl, hu, hE, ho, hx⟩ := hrel
      have HL : (l ++ done).length + 1 ≤ 225000000000000 := by
        have h1 : E.length = done.length + (grp u).length := by rw [hE.out, List.length_append]
        have h2 := (grp_length u).1
        rw [List.length_append]
        omega
      have ho2 := fun o => Lib.hid (ho.out.alloc o)
      have hx2 := fun o => Lib.hid (hx.out.alloc o)
      by_cases h128 : 128 ≤ u
      · have hor : Go.bits .or .u8 ((u : Int) % 256) 128 = ((u % 128 + 128 : Nat) : Int) := by rw [or8_128 _ (by omega) (by omega)]; omega
        go_wp2_with (at_builtin; refine app8 rfl (.tmp 19) (.tmp 23) rfl u5 _ [((u % 128 + 128 : Nat) : Int)] _ _ rfl rfl (ho2 _).out (Blk.new _ _ _).row HL ?_; intro v1 w1 ho1 hx1; have HO1 := Lib.hid (OwnB.late (ho2 _).out (hx2 _).out.size ho1); have HX1 := Lib.hid (ext_late (ho2 _).out (fun k h => h) (hx2 _).out hx1); clear ho1 hx1)
        go_roundw
        case rel =>
          refine ⟨u / 128, done ++ [((u % 128 + 128 : Nat) : Int)], by go_num, Lib.hid (by have := hu.out; omega), Lib.hid ?_, Lib.hid ?_, HX1⟩
          · rw [List.append_assoc, List.singleton_append, ← grp_ge u (by omega) hu.out]; exact hE.out
          · rw [← List.append_assoc]
            exact HO1.out
        case measure => simp [intOf]; omega
      · have hlt : u < 128 := by omega
        go_wp2_with (at_builtin; refine app8 rfl (.tmp 27) (.tmp 30) rfl u5 _ [((u : Nat) : Int)] _ _ rfl rfl (ho2 _).out (Blk.new _ _ _).row HL ?_; intro v1 w1 ho1 hx1; have HO1 := Lib.hid (OwnB.late (ho2 _).out (hx2 _).out.size ho1); have HX1 := Lib.hid (ext_late (ho2 _).out (fun k h => h) (hx2 _).out hx1); clear ho1 hx1)
        go_ret
        refine ⟨_, rfl, ?_, HX1.out⟩
        rw [hE.out, grp_lt u hlt, ← List.append_assoc]
        exact HO1.out
  · have hz := zig_pos n hn h0
    have h00 : 0 ≤ n := by omega
    go_enter Try.func39, Try.ntmps39
    go_wp2_with (at_builtin; refine app8 rfl (.tmp 7) (.tmp 8) rfl _ [] l A c rfl rfl (made0 _) (HR.out.ext0 ((Ext.refl _ _).alloc _)) (by simp; omega) ?_; intro v1 w1 ho1 hx1; have HO1 := Lib.hid (OwnB.late (made0 _) (by simp) ho1); have HX1 : Hid (Ext None_ w w1) := Lib.hid (ext_late (made0 _) (fun k h => h) ((Ext.refl _ _).alloc _) hx1); clear ho1 hx1)
    clear hz
    go_loopw [5, 6] (fun v0 v5 wr => ∃ (u : Nat) (done : List Int), v5 = .int .u64 u ∧ Hid (u < 18446744073709551616) ∧ Hid (E = done ++ grp u) ∧ Hid (OwnB wr (fun k => w.heap.size ≤ k) v0 (l ++ done)) ∧ Hid (Ext None_ w wr)) (fun _ v5 _ => (intOf v5).toNat)
    case atStart => exact ⟨zig n, [], rfl, HZ, Lib.hid HG.out, Lib.hid (by simpa using HO1.out), HX1⟩
    case round =>
      obtain ⟨u, done, rfl, hu, hE, ho, hx⟩ := hrel
      have HL : (l ++ done).length + 1 ≤ 225000000000000 := by
        have h1 : E.length = done.length + (grp u).length := by rw [hE.out, List.length_append]
        have h2 := (grp_length u).1
        rw [List.length_append]
        omega
      have ho2 := fun o => Lib.hid (ho.out.alloc o)
      have hx2 := fun o => Lib.hid (hx.out.alloc o)
      by_cases h128 : 128 ≤ u
      · have hor : Go.bits .or .u8 ((u : Int) % 256) 128 = ((u % 128 + 128 : Nat) : Int) := by rw [or8_128 _ (by omega) (by omega)]; omega
        go_wp2_with (at_builtin; refine app8 rfl (.tmp 19) (.tmp 23) rfl u5 _ [((u % 128 + 128 : Nat) : Int)] _ _ rfl rfl (ho2 _).out (Blk.new _ _ _).row HL ?_; intro v1 w1 ho1 hx1; have HO1 := Lib.hid (OwnB.late (ho2 _).out (hx2 _).out.size ho1); have HX1 := Lib.hid (ext_late (ho2 _).out (fun k h => h) (hx2 _).out hx1); clear ho1 hx1)
        go_roundw
        case rel =>
          refine ⟨u / 128, done ++ [((u % 128 + 128 : Nat) : Int)], by go_num, Lib.hid (by have := hu.out; omega), Lib.hid ?_, Lib.hid ?_, HX1⟩
          · rw [List.append_assoc, List.singleton_append, ← grp_ge u (by omega) hu.out]; exact hE.out
          · rw [← List.append_assoc]
            exact HO1.out
        case measure => simp [intOf]; omega
      · have hlt : u < 128 := by omega
        go_wp2_with (at_builtin; refine app8 rfl (.tmp 27) (.tmp 30) rfl u5 _ [((u : Nat) : Int)] _ _ rfl rfl (ho2 _).out (Blk.new _ _ _).row HL ?_; intro v1 w1 ho1 hx1; have HO1 := Lib.hid (OwnB.late (ho2 _).out (hx2 _).out.size ho1); have HX1 := Lib.hid (ext_late (ho2 _).out (fun k h => h) (hx2 _).out hx1); clear ho1 hx1)
        go_ret
        refine ⟨_, rfl, ?_, HX1.out⟩
        rw [hE.out, grp_lt u hlt, ← List.append_assoc]
        exact HO1.out

theorem rwFlag_any (A : Option Addr) (c : Nat) (l : List Int) (f : Bool) (w : World) (hrow : Row w A (B8 l)) (hlen : l.length + 10 ≤ 225000000000000) :
    Calls Try.prog 42 #[.slice A l.length c, .bool f] w fun e w' => ∃ v', e = .returned v' ∧ OwnB w' (fun k => w.heap.size ≤ k) v' (l ++ [if f = true then 1 else 0]) ∧ Ext None_ w w' := by
  have HR := Lib.hid hrow
  clear hrow
  cases f
  · go_enter Try.func42, Try.ntmps42
    go_wp2_with (first
      | (at_builtin; refine app8 rfl (.tmp 11) (.tmp 12) rfl _ [] l A c rfl rfl (made0 _) (HR.out.ext0 ((Ext.refl _ _).alloc _)) (by simp; omega) ?_; intro v1 w1 ho1 hx1; have HO1 := Lib.hid (OwnB.late (made0 _) (by simp) ho1); have HX1 : Hid (Ext None_ w w1) := Lib.hid (ext_late (made0 _) (fun k h => h) ((Ext.refl _ _).alloc _) hx1); clear ho1 hx1)
      | (at_builtin; refine app8 rfl (.tmp 13) (.tmp 14) rfl v1 l [_] _ _ rfl rfl (HO1.out.alloc _) (Blk.new _ _ _).row (by simp only [List.length_singleton]; omega) ?_; intro v2 w2 ho2 hx2; have HO2 := Lib.hid ho2; have HX2 := Lib.hid hx2; clear ho2 hx2))
    go_ret
    exact ⟨_, rfl, OwnB.late (HO1.out.alloc _) (by have := HX1.out.size; simp; omega) HO2.out, ext_late (HO1.out.alloc _) (fun k h => h) (HX1.out.alloc _) HX2.out⟩
  · go_enter Try.func42, Try.ntmps42
    go_wp2_with (first
      | (at_builtin; refine app8 rfl (.tmp 6) (.tmp 7) rfl _ [] l A c rfl rfl (made0 _) (HR.out.ext0 ((Ext.refl _ _).alloc _)) (by simp; omega) ?_; intro v1 w1 ho1 hx1; have HO1 := Lib.hid (OwnB.late (made0 _) (by simp) ho1); have HX1 : Hid (Ext None_ w w1) := Lib.hid (ext_late (made0 _) (fun k h => h) ((Ext.refl _ _).alloc _) hx1); clear ho1 hx1)
      | (at_builtin; refine app8 rfl (.tmp 8) (.tmp 9) rfl v1 l [_] _ _ rfl rfl (HO1.out.alloc _) (Blk.new _ _ _).row (by simp only [List.length_singleton]; omega) ?_; intro v2 w2 ho2 hx2; have HO2 := Lib.hid ho2; have HX2 := Lib.hid hx2; clear ho2 hx2))
    go_ret
    exact ⟨_, rfl, OwnB.late (HO1.out.alloc _) (by have := HX1.out.size; simp; omega) HO2.out, ext_late (HO1.out.alloc _) (fun k h => h) (HX1.out.alloc _) HX2.out⟩
theorem rwText_any (A : Option Addr) (c : Nat) (l : List Int) (s : ByteArray) (w : World) (hrow : Row w A (B8 l)) (hs : s.size ≤ 9223372036854775807) (hlen : l.length + 10 + s.size ≤ 140737488355328) :
    Calls Try.prog 41 #[.slice A l.length c, .string s] w fun e w' => ∃ v', e = .returned v' ∧ OwnB w' (fun k => w.heap.size ≤ k) v' (l ++ enc s.size ++ bytesOf s) ∧ Ext None_ w w' := by
  have HR := Lib.hid hrow
  clear hrow
  have hel := (enc_length (s.size : Int)).2
  have HI : Hid (I64 (s.size : Int)) := Lib.hid ⟨by omega, by omega⟩
  go_enter Try.func41, Try.ntmps41
  go_wp2_with (first
    | (go_at_call 39; refine (rwNum_any A c l (s.size : Int) _ HI.out HR.out (by omega)).mono ?_; rintro e w2 ⟨v2, rfl, ho2, hx2⟩; have HO2 := Lib.hid ho2; have HX2 := Lib.hid hx2; clear ho2 hx2)
    | (at_builtin; refine appS rfl (.tmp 8) (.tmp 9) rfl v2 _ s rfl rfl HO2.out HX2.out.size (by rw [List.length_append]; omega) ?_; intro v3 w3 ho3 hx3; have HO3 := Lib.hid ho3; have HX3 := Lib.hid hx3; clear ho3 hx3))
  go_ret
  exact ⟨_, rfl, HO3.out, ext_late HO2.out (fun k h => h) HX2.out HX3.out⟩
set_option maxRecDepth 100000 in
theorem rwNums_any (A : Option Addr) (c : Nat) (l : List Int) (A2 : Option Addr) (c2 : Nat) (ns : List Int) (w : World) (hrow : Row w A (B8 l)) (hrow2 : Row w A2 (I8 ns)) (hns : ∀ n ∈ ns, I64 n) (hlen : l.length + 10 + 10 * ns.length ≤ 225000000000000) :
    Calls Try.prog 40 #[.slice A l.length c, .slice A2 ns.length c2] w fun e w' => ∃ v', e = .returned v' ∧ OwnB w' (fun k => w.heap.size ≤ k) v' (l ++ enc ns.length ++ encs ns) ∧ Ext None_ w w' := by
  have HR := Lib.hid hrow
  have HR2 := Lib.hid hrow2
  have HNS := Lib.hid hns
  clear hrow hrow2 hns
  have hel := (enc_length (ns.length : Int)).2
  have HI : Hid (I64 (ns.length : Int)) := Lib.hid ⟨by omega, by omega⟩
  go_enter Try.func40, Try.ntmps40
  go_wp2_with (go_at_call 39; refine (rwNum_any A c l (ns.length : Int) _ HI.out HR.out (by omega)).mono ?_; rintro e w2 ⟨v2, rfl, ho2, hx2⟩; have HO2 := Lib.hid ho2; have HX2 := Lib.hid hx2; clear ho2 hx2)
  go_loopw [5, 6] (fun v5 v6 wr => ∃ (i : Nat), v6 = .int .i64 i ∧ i ≤ ns.length ∧ Hid (OwnB wr (fun k => w.heap.size ≤ k) v5 (l ++ enc ns.length ++ encs (ns.take i))) ∧ Hid (Ext None_ w wr)) (fun _ v6 _ => ns.length - (intOf v6).toNat)
  case atStart => exact ⟨0, rfl, by omega, Lib.hid (by simpa [encs] using HO2.out), HX2⟩
  case round =>
    obtain ⟨i, rfl, hi, ho, hx⟩ := hrel
    by_cases hlt : i < ns.length
    · obtain ⟨x, hxe⟩ : ∃ x, x = ns[i] := ⟨_, rfl⟩
      have hxI := HNS.out x (by rw [hxe]; exact List.getElem_mem _)
      have HT : Hid (ns.take (i + 1) = ns.take i ++ [x]) := Lib.hid (by rw [hxe]; exact List.take_succ_eq_append_getElem hlt)
      obtain ⟨ad, rfl, hc0⟩ := HR2.out i (.int .i64 x) (by simp [I8, hxe])
      have hc : wr.cell? (ad.add i) = some (.int .i64 x) := hx.out.cell hc0 (fun a => a)
      have HXI := Lib.hid hxI
      have hle := encs_length (ns.take i)
      rw [List.length_take] at hle
      have hfit : (l ++ enc ns.length ++ encs (ns.take i)).length + 10 ≤ 225000000000000 := by
        rw [List.length_append, List.length_append]
        have : min i ns.length = i := by omega
        omega
      obtain ⟨L, hL⟩ : ∃ L, L = l ++ enc ns.length ++ encs (ns.take i) := ⟨_, rfl⟩
      rw [← hL] at ho hfit
      have HL := Lib.hid hL
      obtain ⟨A3, c3, rfl, h31, h32, h33⟩ := Own.slice ho.out
      have H33 := Lib.hid h33
      clear hxe hc0 hxI hle h33 hL
      go_wp2_with (go_at_call 39; refine (rwNum_any A3 c3 L x _ HXI.out H33.out hfit).mono ?_; rintro e w3 ⟨v3, rfl, ho3, hx3⟩; have HO3 := Lib.hid (OwnB.mono ho3 (fun k _ hk => Nat.le_trans hx.out.size hk)); have HX3 := Lib.hid (hx.out.trans0 hx3); clear ho3 hx3)
      go_roundw
      case rel => exact ⟨i + 1, by go_num, by omega, Lib.hid (by have h := HO3.out; rw [HL.out] at h; rw [HT.out]; simpa [encs] using h), HX3⟩
      case measure => simp [intOf]; omega
    · have he : i = ns.length := by omega
      subst he
      go_wp2
      go_ret
      exact ⟨_, rfl, by simpa using ho.out, hx.out⟩
theorem rRead_any (A : Option Addr) (c : Nat) (l : List Int) (w : World) (hrow : Row w A (B8 l)) (hb : Byt l) (hlen : l.length ≤ 225000000000000) :
    Calls Try.prog 23 #[.slice A l.length c] w fun e w' => ∃ g b, e = .returned (.pointer (some ⟨g, 0, none⟩)) ∧ Rf w' g b l ⟨0, 0, 0⟩ ∧ w.heap.size ≤ g ∧ w.heap.size ≤ b ∧ Ext None_ w w' := by
  have HR := Lib.hid hrow
  clear hrow
  go_enter Try.func23, Try.ntmps23
  go_wp2_with (at_builtin; refine app8 rfl (.tmp 3) (.tmp 4) rfl _ [] l A c rfl rfl (made0 _) (HR.out.ext0 ((Ext.refl _ _).alloc _)) (by simp; omega) ?_; intro v1 w1 ho1 hx1; have ho0 : OwnB w1 (fun k => w.heap.size ≤ k) v1 l := OwnB.late (made0 _) (by simp) ho1; have HS : w.heap.size < w1.heap.size := (by have := hx1.size; simp at this; omega); have HO1 := Lib.hid ho0; have HX1 : Hid (Ext None_ w w1) := Lib.hid (ext_late (made0 _) (fun k h => h) ((Ext.refl _ _).alloc _) hx1); obtain ⟨A1, c1, rfl, hl1, hm1, hrow1⟩ := Own.slice ho0; have HROW := Lib.hid hrow1; clear ho0 ho1 hx1 hrow1)
  go_ret
  have hx := HX1.out.alloc (.cells #[.slice A1 l.length c1, .int .i64 0, .int .i64 0, .int .i64 0] 65)
  have hrow := HROW.out.ext0 ((Ext.refl None_ w1).alloc (.cells #[.slice A1 l.length c1, .int .i64 0, .int .i64 0, .int .i64 0] 65))
  have hn := Blk.new w1 #[.slice A1 l.length c1, .int .i64 0, .int .i64 0, .int .i64 0] 65
  clear HROW HX1 HR
  cases A1 with
  | none =>
    refine ⟨w1.heap.size, w.heap.size, rfl, ⟨none, c1, hn, hl1, hrow, (fun ad e => by cases e), ⟨by omega, ?_⟩, hb, Nat.zero_le _, hlen⟩, by omega, Nat.le_refl _, hx⟩
    simp
    omega
  | some ad =>
    have h1 := HO1.out.blk ad.block rfl
    have h2 := Own.lt HO1.out ad.block rfl
    refine ⟨w1.heap.size, ad.block, rfl, ⟨some ad, c1, hn, hl1, hrow, (fun ad' e => by cases e; rfl), ⟨by omega, ?_⟩, hb, Nat.zero_le _, hlen⟩, by omega, h1, hx⟩
    simp
    omega
end Go.Proofs.Yteofjillmhfamaa
