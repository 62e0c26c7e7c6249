/- Package wire, walked: the reader's lists. -/
import Derived.Test.YteofjillmhfamaaWire4
import Derived.Lib.AppendStr
import Derived.Deep.RegionWith
import Derived.Laws.BytesArg
set_option linter.unusedVariables false
set_option linter.unusedSimpArgs false
namespace Go.Proofs.Yteofjillmhfamaa
open Go.RowKit B




theorem numsF_zero (l : List Int) (f : Nat) (s : RS) : numsF l f 0 s = ([], s) := rfl
theorem numsF_bad (l : List Int) (f n : Nat) (s : RS) (h : ¬ s.fe = 0) : numsF l f n s = ([], s) := by cases n <;> simp [numsF, h]
theorem numsF_ok (l : List Int) (f n : Nat) (s : RS) (h : s.fe = 0) : numsF l f (n + 1) s = ((numR l f s).1 :: (numsF l f n (numR l f s).2).1, (numsF l f n (numR l f s).2).2) := by simp [numsF, h]
set_option maxRecDepth 100000 in
set_option maxHeartbeats 4000000 in
theorem Nums_any (g b : Nat) (l : List Int) (s : RS) (most : Int) (w : World) (h : Rd w g b l s) (hl8 : most ≤ 17592186043904) :
    Calls Try.prog 20 #[.pointer (some ⟨g, 0, none⟩), .int .i64 most] w fun e w' => ∃ v, e = .returned v ∧ OwnI w' (fun k => w.heap.size ≤ k) v (NumsR l most s).1 ∧ Rd w' g b l (NumsR l most s).2 ∧ Ext (fun k => k = g) w w' := by
  have hbd := h.bounds
  obtain ⟨hpos, hlen, hbyt⟩ := hbd
  have HLT := Lib.hid h.lt
  have HBY := Lib.hid hbyt
  clear hbyt
  obtain ⟨A, c, ⟨c0, c1, c2, c3⟩, cf, _⟩ := h.cells
  have HR := Lib.hid h
  clear h
  unfold NumsR
  by_cases hfe : s.fe = 0
  · rw [if_pos hfe]
    have hb := feT hfe
    have hcnt := fun W (hr : Rd W g b l s) => count_any g b l s s.pos most W hr hpos
    have hok := countR_ok l s.pos most s
    have hbad := countR_zero l s.pos most s hfe
    have hpos2 := countR_pos l s.pos most s hpos hpos
    have hn64 := (countR_I64 l HBY.out s.pos most s).2
    generalize countR l s.pos most s = r at hcnt hok hbad hpos2 hn64 ⊢
    obtain ⟨n, s1⟩ := r
    have HN := Lib.hid hcnt
    clear hcnt hfe
    simp only at hok hbad hpos2 hn64 ⊢
    have hn0 : 0 ≤ n := by
      by_cases hf : s1.fe = 0
      · exact (hok hf).1
      · have := hbad hf
        omega
    have hnm : n ≤ 17592186043904 := by
      by_cases hf : s1.fe = 0
      · have := (hok hf).2
        omega
      · have := hbad hf
        omega
    clear hok hbad
    obtain ⟨n, rfl⟩ := Int.eq_ofNat_of_zero_le hn0
    simp only [Int.toNat_natCast]
    obtain ⟨q, hq⟩ : ∃ q, q = numsF l s.pos n s1 := ⟨_, rfl⟩
    have HQ := Lib.hid hq
    rw [← hq]
    clear hq
    go_enter Try.func20, Try.ntmps20
    go_wp2_with (first
      | (go_at_call 28; (with_reducible refine (good_any _ _ _ _ hb).mono ?_); rintro e w1 ⟨rfl, hx1⟩; have hr1 := HR.out.ext0 hx1; have HR1 := Lib.hid hr1; have HY1 := Lib.hid hx1; obtain ⟨A1, cc1, ⟨d10, d11, d12, d13⟩, df1, dl1, _⟩ := hr1.cells; clear hr1 hx1)
      | (go_at_call 43; refine (HN.out _ HR1.out).mono ?_; rintro e w2 ⟨rfl, hr2, hx2⟩; have HR2 := Lib.hid hr2; have HX2 : Hid (Ext (fun k => k = g) w w2) := Lib.hid ((Ext.ofBelow HY1.out.below).trans hx2 (fun _ _ a => a)); obtain ⟨A2, cc2, ⟨e0, e1, e2, e3⟩, ef, el, _⟩ := hr2.cells; clear hr2 hx2))
    go_loopw [7, 8, 9] (fun v7 v8 _ wr => ∃ (i : Nat) (acc : List Int) (s' : RS), v8 = .int .i64 i ∧ i ≤ n ∧ Hid (q = (acc ++ (numsF l s.pos (n - i) s').1, (numsF l s.pos (n - i) s').2)) ∧ Hid (acc.length = i) ∧ Hid (OwnI wr (fun k => w.heap.size ≤ k) v7 acc) ∧ Hid (Rd wr g b l s') ∧ Hid (Ext (fun k => k = g) w wr)) (fun _ v8 _ _ => n - (intOf v8).toNat)
    case atStart => exact ⟨0, [], s1, rfl, by omega, Lib.hid (by simpa using HQ.out), Lib.hid rfl, Lib.hid (OwnI.nil _ _), HR2, HX2⟩
    case round =>
      obtain ⟨i, acc, s', rfl, hin, hqi, hacc, hown, hr', hx'⟩ := hrel
      obtain ⟨A', c', ⟨f0, f1, f2, f3⟩, ff, _⟩ := hr'.out.cells
      have hpos' := hr'.out.bounds.1
      by_cases hlt : i < n
      · by_cases hf' : s'.fe = 0
        · have hb' := feT hf'
          have hnum := fun W (hr : Rd W g b l s') => num_any g b l s' s.pos W hr hpos
          have hadv := numR_adv l s.pos s'
          have hni := numsF_ok l s.pos (n - (i + 1)) s' hf'
          have hal := hacc.out
          rw [show n - (i + 1) + 1 = n - i by omega] at hni
          generalize numR l s.pos s' = r1 at hnum hadv hni
          obtain ⟨x, s2⟩ := r1
          simp only at hadv hni
          have HN2 := Lib.hid hnum
          have HADV := Lib.hid hadv
          have HNI := Lib.hid hni
          clear hnum hadv hni hf'
          have HOA : ∀ W W2, Ext None_ wr W → Ext (fun k => k = g) W W2 → ∀ o, Hid (OwnI (W2.alloc o) (fun k => w.heap.size ≤ k) u7 acc) := fun W W2 h1 h2 o => Lib.hid (((hown.out.ext0 h1).ext h2 (fun k hk e => by have := hown.out.blk k hk; have := HLT.out.1; omega)).alloc o)
          go_wp2_with (first
            | (go_at_call 28; (with_reducible refine (good_any _ _ _ _ hb').mono ?_); rintro e w3 ⟨rfl, hx1⟩; have hr1 := hr'.out.ext0 hx1; have HR3 := Lib.hid hr1; have HY3 := Lib.hid hx1; obtain ⟨A3, cc3, ⟨d30, d31, d32, d33⟩, df3, dl3, _⟩ := hr1.cells; clear hr1 hx1)
            | (go_at_call 44; refine (HN2.out _ HR3.out).mono ?_; rintro e w4 ⟨rfl, hr4, hx4⟩; have HR4 := Lib.hid hr4; have HX4 : Hid (Ext (fun k => k = g) w w4) := Lib.hid ((hx'.out.trans0 HY3.out).trans hx4 (fun _ _ a => a)); have HOO := fun o => HOA _ _ HY3.out hx4 o; clear hr4 hx4)
            | (at_builtin; refine appI rfl (.tmp 43) (.tmp 45) rfl u7 acc [x] _ _ rfl rfl (HOO _).out (Blk.new _ _ _).row (by simp only [List.length_singleton]; omega) ?_; intro v1 w5 ho1 hx5; have HO1 := Lib.hid ho1; have HX5 := Lib.hid hx5; clear ho1 hx5))
          refine ⟨⟨i + 1, acc ++ [x], s2, by go_num, by omega, Lib.hid ?_, Lib.hid ?_, Lib.hid ?_, Lib.hid ?_, Lib.hid ?_⟩, by simp [intOf]; omega⟩
          · rw [hqi.out, HNI.out]; simp [List.append_assoc]
          · simp only [List.length_append, List.length_singleton]
            omega
          · refine HO1.out.mono (fun k _ hk => ?_)
            rcases hk with hk | hk
            · exact hown.out.blk k hk
            · have := HX4.out.size
              simp at hk
              omega
          · exact (HR4.out.ext0 ((Ext.refl _ _).alloc _)).ext HX5.out (fun hk => by have := hown.out.blk _ hk; have := HLT.out.1; omega) (fun hk => by have := hown.out.blk _ hk; have := HLT.out.2.1; omega)
          · exact (HX4.out.alloc _).trans HX5.out (fun k hk hq => by have := hown.out.blk _ hq; omega)
        · have hb' := feF hf'
          have HQB : Hid (q = (acc, s')) := Lib.hid (by rw [hqi.out, numsF_bad _ _ _ _ hf', List.append_nil])
          have HF := Lib.hid hf'
          clear hf'
          go_wp2_with (first
            | (go_at_call 28; (with_reducible refine (good_any _ _ _ _ hb').mono ?_); rintro e w3 ⟨rfl, hx1⟩; have hr1 := hr'.out.ext0 hx1; have HR3 := Lib.hid hr1; have HY3 := Lib.hid hx1; obtain ⟨A3, cc3, ⟨d30, d31, d32, d33⟩, df3, dl3, _⟩ := hr1.cells; clear hr1 hx1)
            | (go_at_call 28; (with_reducible refine (good_any _ _ _ _ hb').mono ?_); rintro e w4 ⟨rfl, hx1⟩; have HR4 := Lib.hid (HR3.out.ext0 hx1); have HY4 := Lib.hid (HY3.out.trans0 hx1); clear hx1))
          go_ret
          rw [HQB.out, fin_bad HF.out]
          exact ⟨_, rfl, OwnI.nil _ _, HR4.out, hx'.out.trans0 HY4.out⟩
      · have he : i = n := by omega
        subst he
        have HQB : Hid (q = (acc, s')) := Lib.hid (by rw [hqi.out, Nat.sub_self, numsF_zero, List.append_nil])
        by_cases hf' : s'.fe = 0
        · have hb' := feT hf'
          have HF := Lib.hid hf'
          clear hf'
          go_wp2_with (go_at_call 28; (with_reducible refine (good_any _ _ _ _ hb').mono ?_); rintro e w3 ⟨rfl, hx1⟩; have hr1 := hr'.out.ext0 hx1; have HR3 := Lib.hid hr1; have HY3 := Lib.hid hx1; obtain ⟨A3, cc3, ⟨d30, d31, d32, d33⟩, df3, dl3, _⟩ := hr1.cells; clear hr1 hx1)
          go_ret
          rw [HQB.out, fin_ok HF.out]
          exact ⟨_, rfl, hown.out.ext0 HY3.out, HR3.out, hx'.out.trans0 HY3.out⟩
        · have hb' := feF hf'
          have HF := Lib.hid hf'
          clear hf'
          go_wp2_with (go_at_call 28; (with_reducible refine (good_any _ _ _ _ hb').mono ?_); rintro e w3 ⟨rfl, hx1⟩; have hr1 := hr'.out.ext0 hx1; have HR3 := Lib.hid hr1; have HY3 := Lib.hid hx1; obtain ⟨A3, cc3, ⟨d30, d31, d32, d33⟩, df3, dl3, _⟩ := hr1.cells; clear hr1 hx1)
          go_ret
          rw [HQB.out, fin_bad HF.out]
          exact ⟨_, rfl, OwnI.nil _ _, HR3.out, hx'.out.trans0 HY3.out⟩
  · rw [if_neg hfe]
    have hb := feF hfe
    clear hfe
    go_enter Try.func20, Try.ntmps20
    go_wp2_with (go_at_call 28; (with_reducible refine (good_any _ _ _ _ hb).mono ?_); rintro e w1 ⟨rfl, hx1⟩; have HR1 := Lib.hid (HR.out.ext0 hx1); have HX1 : Hid (Ext (fun k => k = g) w w1) := Lib.hid (hx1.mono (fun _ _ a => a.elim)); clear hx1)
    go_ret
    exact ⟨_, rfl, OwnI.nil _ _, HR1.out, HX1.out⟩
end Go.Proofs.Yteofjillmhfamaa
