/- drayref3, walked: the reference's reader. -/
import Derived.Test.YtmobdofkiddfhaaRef3c
import Derived.Lib.AppendStr
import Derived.Deep.RegionWith
import Derived.Laws.BytesArg
set_option linter.unusedVariables false
set_option linter.unusedSimpArgs false
namespace Go.Proofs.Ytmobdofkiddfhaa
open Go.RowKit B









set_option maxRecDepth 100000 in
set_option maxHeartbeats 4000000 in
theorem rNums_any (g b : Nat) (l : List Int) (s : RS) (most : Int) (w : World) (h : Rf w g b l s) (hl8 : l.length * 8 + 8 ≤ 140737488355328) :
    Calls Try.prog 74 #[.pointer (some ⟨g, 0, none⟩), .int .i64 most] w fun e w' => ∃ v, e = .returned v ∧ OwnI w' (fun k => w.heap.size ≤ k) v (NumsR l most s).1 ∧ Rf w' g b l (NumsR l most s).2 ∧ Ext (fun k => k = g) w w' := by
  have hbd := h.bounds
  obtain ⟨hpos, hlen, hbyt⟩ := hbd
  have HBY := Lib.hid hbyt
  obtain ⟨A, c, ⟨c0, c1, c2, c3⟩, cf, hcl, hrow⟩ := h.cells
  have HROW := Lib.hid hrow
  have HLT := Lib.hid h.lt
  have HR := Lib.hid h
  clear h hrow hbyt
  unfold NumsR
  by_cases hfe : s.fe = 0
  · rw [if_pos hfe]
    have hn64 := (countR_I64 l HBY.out s.pos most s).2
    have hcI := (countR_ok l s.pos most s)
    rw [countR_eq _ _ _ hfe] at hcI hn64 ⊢
    have HFE := Lib.hid hfe
    have hb := neT hfe
    clear hfe
    have hcnt := fun W (hr : Rf W g b l s) => rcount_any g b l s most W hr
    have hp := countF_pos l s.pos most hpos
    generalize countF l s.pos most = r at hcnt hp hcI hn64 ⊢
    obtain ⟨n, to, e⟩ := r
    have HN := Lib.hid hcnt
    clear hcnt
    simp only at hp hcI hn64 ⊢
    by_cases he : e = 0
    · rw [if_pos he] at hcI hn64 ⊢
      simp only at hcI hn64 ⊢
      have hn0 := (hcI HFE.out).1
      clear hcI
      have hb2 := neT he
      clear he
      obtain ⟨n, rfl⟩ := Int.eq_ofNat_of_zero_le hn0
      simp only [Int.toNat_natCast]
      obtain ⟨q, hq⟩ : ∃ q, q = numsF l s.pos n ⟨to, s.fa, s.fe⟩ := ⟨_, rfl⟩
      have HQ := Lib.hid hq
      rw [← hq]
      clear hq
      go_enter Try.func74, Try.ntmps74
      go_wp2_with (go_at_call 87; refine (HN.out _ HR.out).mono ?_; rintro e' w1 ⟨rfl, m1, rfl⟩)
      go_loopw [6, 8, 9, 10, 11, 12] (fun v6 v8 v9 _ _ _ wr => ∃ (i to' : Nat) (acc : List Int), v6 = .int .i64 to' ∧ v9 = .int .i64 i ∧ i ≤ n ∧ to' ≤ l.length ∧ Hid (q = (acc ++ (numsF l s.pos (n - i) ⟨to', s.fa, s.fe⟩).1, (numsF l s.pos (n - i) ⟨to', s.fa, s.fe⟩).2)) ∧ acc.length ≤ to' ∧ Hid (OwnI wr (fun k => w.heap.size ≤ k) v8 acc) ∧ Hid (Ext None_ w wr)) (fun _ _ v9 _ _ _ _ => n - (intOf v9).toNat)
      case atStart => exact ⟨0, to, [], rfl, rfl, by omega, hp, Lib.hid (by simpa using HQ.out), Nat.zero_le _, Lib.hid (OwnI.nil _ _), Lib.hid ((Ext.refl _ _).drewN _)⟩
      case round =>
        obtain ⟨i, to', acc, rfl, rfl, hin, hto, hqi, hacc, hown, hx'⟩ := hrel
        have hr' := HR.out.ext0 hx'.out
        obtain ⟨A', c', ⟨f0, f1, f2, f3⟩, ff, _, hrow'⟩ := hr'.cells
        have HR' := Lib.hid hr'
        have HROW' := Lib.hid hrow'
        clear hr' hrow'
        by_cases hlt : i < n
        · have hni := numsF_ok l s.pos (n - (i + 1)) ⟨to', s.fa, s.fe⟩ HFE.out
          rw [show n - (i + 1) + 1 = n - i by omega, numR_eq] at hni
          have hadv := numR_adv l s.pos ⟨to', s.fa, s.fe⟩
          rw [numR_eq] at hadv
          have hnum := fun W (hr : Row W A' (B8 l)) => number_any A' c' l to' W hr HBY.out hto hlen
          simp only at hni hadv
          generalize numberR l to' = r1 at hnum hni hadv
          obtain ⟨x, nx, f⟩ := r1
          simp only at hni hadv
          have HN2 := Lib.hid hnum
          clear hnum
          by_cases hf : f = 0
          · rw [if_pos hf] at hni hadv
            have hadv2 := hadv HFE.out
            simp only at hadv2
            have HNI := Lib.hid hni
            have hb3 := neT hf
            clear hni hadv hf
            obtain ⟨ha1, ha2, _⟩ := hadv2
            have HOO := fun o => Lib.hid (hown.out.alloc o)
            have HXX := fun o => Lib.hid (hx'.out.alloc o)
            go_wp2_with (first
              | (go_at_call 86; refine (HN2.out _ HROW'.out).mono ?_; rintro e w4 ⟨rfl, rfl⟩)
              | (at_builtin; refine appI rfl (.tmp 50) (.tmp 52) rfl u8 acc [x] _ _ rfl rfl (HOO _).out (Blk.new _ _ _).row (by simp only [List.length_singleton]; omega) ?_; intro v1 w5 ho1 hx5; have HO1 := Lib.hid ho1; have HX5 := Lib.hid hx5; clear ho1 hx5))
            refine ⟨⟨i + 1, nx, acc ++ [x], rfl, by go_num, by omega, ha2, Lib.hid ?_, ?_, Lib.hid ?_, Lib.hid ?_⟩, by simp [intOf]; omega⟩
            · rw [hqi.out, HNI.out]; simp [List.append_assoc]
            · simp only [List.length_append, List.length_singleton]
              omega
            · refine HO1.out.mono (fun k _ hk => ?_)
              rcases hk with hk | hk
              · exact hown.out.blk k hk
              · have := hx'.out.size
                simp at hk
                omega
            · exact (hx'.out.alloc _).trans HX5.out (fun k hk hq => by have := hown.out.blk _ hq; omega)
          · rw [if_neg hf] at hni
            have HQB : Hid (q = (acc ++ [0], ⟨s.pos, s.pos, f⟩)) := Lib.hid (by rw [hqi.out, hni, numsF_bad _ _ _ _ (by exact hf)])
            have HF := Lib.hid hf
            have hb3 := neF hf
            clear hni hadv hf
            go_wp2_with (first
              | (go_at_call 86; refine (HN2.out _ HROW'.out).mono ?_; rintro e w4 ⟨rfl, rfl⟩)
              | (go_at_call 78; refine (wrong_any g b l s f _ HR'.out).mono ?_; rintro e w9 ⟨rfl, hr9, hx9⟩; have HR9 := Lib.hid hr9; have HX9 : Hid (Ext (fun k => k = g) w w9) := Lib.hid ((Ext.ofBelow (S := fun k => k = g) hx'.out.below).trans hx9 (fun _ _ a => a)); clear hr9 hx9))
            go_ret
            rw [HQB.out, fin_bad (by exact HF.out)]
            exact ⟨_, rfl, OwnI.nil _ _, HR9.out, HX9.out⟩
        · have he : i = n := by omega
          subst he
          have HQB : Hid (q = (acc, ⟨to', s.fa, s.fe⟩)) := Lib.hid (by rw [hqi.out, Nat.sub_self, numsF_zero, List.append_nil])
          go_wp2
          go_ret
          rw [HQB.out, fin_ok (by exact HFE.out)]
          have hset := (Ext.refl (fun k => k = g) wr).setCell (p := ⟨g, 1, none⟩) (.inl rfl) (.int .i64 (to' : Int))
          exact ⟨_, rfl, hown.out.ext hset (fun k hk e => by have := hown.out.blk k hk; have := HLT.out.1; omega), HR'.out.setPos to' _ rfl hto, (Ext.ofBelow (S := fun k => k = g) hx'.out.below).trans hset (fun _ _ a => a)⟩
    · rw [if_neg he]
      have HFB : fin (numsF l s.pos (0 : Int).toNat ⟨s.pos, s.pos, e⟩) = ([], ⟨s.pos, s.pos, e⟩) := by
        rw [show (0 : Int).toNat = 0 from rfl, numsF_zero, fin_bad (by exact he)]
      simp only
      rw [HFB]
      have hb2 := neF he
      clear he hcI HFB
      go_enter Try.func74, Try.ntmps74
      go_wp2_with (first
        | (go_at_call 87; refine (HN.out _ HR.out).mono ?_; rintro e' w1 ⟨rfl, m1, rfl⟩)
        | (go_at_call 78; refine (wrong_any g b l s e _ (HR.out.drewN _)).mono ?_; rintro e w9 ⟨rfl, hr9, hx9⟩; have HR9 := Lib.hid hr9; have HX9 : Hid (Ext (fun k => k = g) w w9) := Lib.hid (((Ext.refl (fun k => k = g) w).drewN _).trans hx9 (fun _ _ a => a)); clear hr9 hx9))
      go_ret
      exact ⟨_, rfl, OwnI.nil _ _, HR9.out, HX9.out⟩
  · rw [if_neg hfe]
    have hb := neF hfe
    clear hfe
    go_enter Try.func74, Try.ntmps74
    go_wp2
    go_ret
    exact ⟨_, rfl, OwnI.nil _ _, HR.out, Ext.refl _ _⟩
end Go.Proofs.Ytmobdofkiddfhaa
