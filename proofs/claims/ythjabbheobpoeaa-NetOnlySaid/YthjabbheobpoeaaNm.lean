/- draylaw26, walked: NetFull. Written by gen_nm.py. -/
import Derived.Test.YthjabbheobpoeaaNl
import Derived.Test.YthjabbheobpoeaaOpen
set_option linter.unusedVariables false
set_option linter.unusedSimpArgs false
namespace Go.Proofs.Ythjabbheobpoeaa
open Go.RowKit B
theorem ret_ {k : IntKind} {a b : Int} (h : a = b) : Ending.returned (.int k a) = .returned (.int k b) := by rw [h]
def within (n lo hi : Int) : Int := lo + n % (hi - lo + 1)
theorem within_rng (n lo hi : Int) (h : lo ≤ hi) : lo ≤ within n lo hi ∧ within n lo hi ≤ hi := by
  unfold within
  have := Int.emod_nonneg n (show hi - lo + 1 ≠ 0 by omega)
  have := Int.emod_lt_of_pos n (show 0 < hi - lo + 1 by omega)
  omega
theorem within_neg (n lo hi : Int) (w : World) (hn : I64 n) (h0 : -1000 ≤ lo) (h1 : lo ≤ hi) (h2 : hi ≤ 1000) :
    Calls Try.prog 17 #[.int .i64 n, .int .i64 lo, .int .i64 hi] w fun e w' => e = .returned (.int .i64 (within n lo hi)) ∧ w = w' := by
  obtain ⟨hn1, hn2⟩ := hn
  have hd : 0 < hi - lo + 1 := by omega
  obtain ⟨t1, t2, t3⟩ := tmod_cases n (hi - lo + 1) hd
  by_cases hneg : n < 0
  · by_cases hz : n.tmod (hi - lo + 1) < 0
    · have HE : Hid (within n lo hi = lo + (n.tmod (hi - lo + 1) + hi - lo + 1)) := Lib.hid (by unfold within; rw [t3, if_pos hz]; omega)
      clear t3
      go_enter Try.func17, Try.ntmps17
      go_wp2
      go_ret
      exact ⟨ret_ (by rw [HE.out]), rfl⟩
    · have HE : Hid (within n lo hi = lo + n.tmod (hi - lo + 1)) := Lib.hid (by unfold within; rw [t3, if_neg hz])
      clear t3
      go_enter Try.func17, Try.ntmps17
      go_wp2
      go_ret
      exact ⟨ret_ (by rw [HE.out]), rfl⟩
  · have hn0 : 0 ≤ n := by omega
    have he1 := Int.emod_nonneg n (show hi - lo + 1 ≠ 0 by omega)
    have he2 := Int.emod_lt_of_pos n hd
    clear t1 t2 t3 hneg
    go_enter Try.func17, Try.ntmps17
    go_wp2
    go_ret
    exact ⟨ret_ rfl, rfl⟩
set_option maxRecDepth 100000 in
theorem ln_s1 {w W : World} {ps : List Nat} {g m : Nat} {N : NS} (h : LN w ps g N m W) (hm : m + 2 < maxLen) (q : Msg) (hq : I64 q.f ∧ I64 q.t ∧ q.es = []) : Calls Try.prog 8 #[.pointer (some ⟨g, 0, none⟩), .slice (some ⟨W.heap.size, 0, none⟩) 1 1] (W.alloc (.cells (msgC q none 0) 28)) fun e w' => e = .returned (.tuple #[]) ∧ StepP w ps g (send1 N q) (m + 1) W w' := by
  have h1 : LN w (W.heap.size :: ps) g N m (W.alloc (.cells (msgC q none 0) 28)) := h.add (x0 _ _) (Nat.le_refl _) (by rw [size_alloc]; omega)
  refine (ln_sendk h1 W.heap.size 1 [q] (by simpa using hm) (by simp) (by simpa using Blk.row (Blk.new W (msgC q none 0) 28)) (by simp) (fun q' hq' => by rw [List.mem_singleton] at hq'; subst hq'; exact hq)).mono fun e w' ⟨h1, h4, h5⟩ => ⟨h1, ?_, ?_⟩
  · exact h4.less (fun k hk => List.mem_cons_of_mem _ hk)
  · refine (Ext.mono (x0 W _) (fun _ _ a => a.elim)).trans h5 (fun k hk e hk2 => e (List.mem_cons_of_mem _ hk2))
abbrev mkM (k f t tm : Int) : Msg := mk k f t tm
/-- How a net of two stands on which i messages were sent from 1 to 0. -/
structure F2 (N : NS) (i : Nat) : Prop where
  n : N.n = 2
  one : N.wait 1 0 = (List.range (min i 64)).map (fun j : Nat => mkM 1 1 0 (j + 1))
  two : N.wait 0 1 = []
  cut1 : N.cut 1 0 = 0
  cut2 : N.cut 0 1 = 0
theorem F2.send {N : NS} {i : Nat} (h : F2 N i) : F2 (send1 N (mkM 1 1 0 ((i : Int) + 1))) (i + 1) := by
  have ht : thereB N 1 0 = true := by unfold thereB; rw [h.n]; decide
  have hl : (N.wait 1 0).length = min i 64 := by rw [h.one]; simp
  unfold send1
  show F2 (if thereB N 1 0 = true ∧ N.cut 1 0 = 0 ∧ (N.wait 1 0).length < 64 then _ else N) (i + 1)
  by_cases hi : i < 64
  · rw [if_pos ⟨ht, h.cut1, by omega⟩]
    refine ⟨h.n, ?_, ?_, h.cut1, h.cut2⟩
    · show updW N.wait 1 0 (N.wait 1 0 ++ [mkM 1 1 0 ((i : Int) + 1)]) 1 0 = _
      unfold updW
      rw [if_pos ⟨rfl, rfl⟩, h.one, Nat.min_eq_left (by omega), Nat.min_eq_left (by omega), List.range_succ, List.map_append]
      rfl
    · show updW N.wait 1 0 (N.wait 1 0 ++ [mkM 1 1 0 ((i : Int) + 1)]) 0 1 = _
      unfold updW
      rw [if_neg (by decide)]
      exact h.two
  · rw [if_neg (by omega)]
    exact ⟨h.n, by rw [h.one, Nat.min_eq_right (by omega), Nat.min_eq_right (by omega)], h.two, h.cut1, h.cut2⟩
theorem F2.off {N : NS} {i : Nat} (h : F2 N i) : F2 (turnN (send1 (turnN N 0 1 1) (mkM 1 0 1 1)) 0 1 0) i := by
  have ht : thereB N 0 1 = true := by unfold thereB; rw [h.n]; decide
  have e : turnN N 0 1 1 = { N with cut := updI (updI N.cut 0 1 1) 1 0 1 } := by unfold turnN; rw [if_pos ht]
  have e2 : send1 (turnN N 0 1 1) (mkM 1 0 1 1) = turnN N 0 1 1 := by
    rw [e]
    unfold send1
    rw [if_neg]
    intro h3
    have h4 : updI (updI N.cut 0 1 1) 1 0 1 0 1 = 0 := h3.2.1
    simp [updI] at h4
  rw [e2, e]
  unfold turnN
  rw [if_pos (by unfold thereB; simp only [h.n]; decide)]
  refine ⟨h.n, h.one, h.two, ?_, ?_⟩ <;> simp [updI]
theorem F2.last {N : NS} {i : Nat} (h : F2 N i) (k k1 : Int) (hk1 : k1 = k - 1) (hk : k = ((min i 64 : Nat) : Int)) (h0 : 0 < k) : (∃ q : Msg, twiceN N 1 0 k1 = (q, true) ∧ q.tm = k) ∧ (((dropN N 1 0 k1).wait 0 1).length : Int) = 0 := by
  have hl : (N.wait 1 0).length = min i 64 := by rw [h.one]; simp
  have ha : atN N 1 0 k1 = k1 := by
    unfold atN
    rw [if_neg (by rw [h.cut1, hl]; omega), hl, ← hk]
    exact Int.emod_eq_of_lt (by omega) (by omega)
  refine ⟨⟨mkM 1 1 0 k, ?_, rfl⟩, ?_⟩
  · unfold twiceN
    rw [ha, if_neg (by omega), h.one]
    obtain ⟨j, hj⟩ : ∃ j : Nat, k1 = j := ⟨k1.toNat, by omega⟩
    have hjl : j < min i 64 := by omega
    rw [hj, Int.toNat_natCast, List.getD_eq_getElem?_getD]
    simp [hjl]
    rw [show (j : Int) + 1 = k by omega]
  · unfold dropN
    rw [ha, if_neg (by omega)]
    show ((updW N.wait 1 0 ((N.wait 1 0).eraseIdx k1.toNat) 0 1).length : Int) = 0
    unfold updW
    rw [if_neg (by decide), h.two]
    rfl
set_option maxRecDepth 100000 in
set_option maxHeartbeats 16000000 in
theorem NetFull_any (more : Int) (cut : Bool) (hmore : I64 more) (w : World) : Calls Try.prog 5 #[.int .i64 more, .bool cut] w fun e w' => e = .returned (.bool true) ∧ Ext None_ w w' := by
  have hr := within_rng more (-3) 5 (by decide)
  have HW := Lib.hid (fun W => within_neg more (-3) 5 W hmore (by decide) (by decide) (by decide))
  obtain ⟨k, hk⟩ : ∃ k, k = within more (-3) 5 := ⟨_, rfl⟩
  rw [← hk] at HW hr
  clear hk
  go_enter Try.func5, Try.ntmps5
  go_wp2_with fail
  refine (ln_new 2 w (by decide) (by decide)).mono ?_
  rintro e w1 ⟨g, rfl, h1⟩
  have H0 := Lib.hid h1
  clear h1
  go_wp2_with fail
  refine (HW.out w1).mono ?_
  rintro e w1' ⟨rfl, rfl⟩
  obtain ⟨n, hn⟩ : ∃ n : Nat, (n : Int) = 64 + k := ⟨(64 + k).toNat, by omega⟩
  go_wp2_with fail
  go_loopw [8] (fun v8 wr => ∃ (i : Nat) (N : NS), v8 = .int .i64 i ∧ i ≤ n ∧ Hid (F2 N i) ∧ Hid (LN w [] g N i wr)) (fun v8 _ => n - (intOf v8).toNat)
  case atStart => exact ⟨0, _, rfl, by omega, Lib.hid ⟨rfl, rfl, rfl, rfl, rfl⟩, H0⟩
  case round =>
    clear H0
    obtain ⟨i, N, rfl, hi, hf, hl⟩ := hrel
    by_cases hlt : i < n
    · go_wp2_with fail
      refine (ln_s1 hl.out (by simp only [maxLen]; omega) (mkM 1 1 0 ((i : Int) + 1)) ⟨by show I64 1; decide, by show I64 0; decide, rfl⟩).mono ?_
      rintro e w2 ⟨rfl, h1, _⟩
      have HL2 := Lib.hid h1
      have HF2 := Lib.hid (F2.send hf.out)
      clear h1 hf hl
      go_wp2_with fail
      go_roundw
      case rel => exact ⟨i + 1, _, by go_num, by omega, HF2, HL2⟩
      case measure => simp [intOf]; omega
    · have hin : i = n := by omega
      subst hin
      have H10 : Hid (((N.wait 1 0).length : Int) = ((min i 64 : Nat) : Int)) := Lib.hid (by rw [hf.out.one]; simp)
      have H01 : Hid (((N.wait 0 1).length : Int) = 0) := Lib.hid (by rw [hf.out.two]; rfl)
      by_cases h64 : 64 < i
      · have hmin : ((min i 64 : Nat) : Int) = 64 := by omega
        rw [hmin] at H10
        have HLAST := Lib.hid (fun N (h : F2 N i) => h.last 64 63 (by omega) hmin.symm (by omega))
        go_wp2_with fail
        refine (ln_waiting hl.out 1 0 (by decide) (by decide)).mono ?_
        rintro e w2 ⟨rfl, rfl⟩
        rw [H10.out]
        go_wp2_with fail
        refine (ln_waiting hl.out 0 1 (by decide) (by decide)).mono ?_
        rintro e w2 ⟨rfl, rfl⟩
        rw [H01.out]
        cases cut with
        | true =>
          go_wp2_with fail
          refine (ln_cut hl.out (by simp only [maxLen]; omega) 0 1 (by decide) (by decide)).mono ?_
          rintro e w2 ⟨rfl, h1, _⟩
          have H1 := Lib.hid h1
          clear h1
          go_wp2_with fail
          refine (ln_s1 H1.out (by simp only [maxLen]; omega) (mkM 1 0 1 1) ⟨by show I64 0; decide, by show I64 1; decide, rfl⟩).mono ?_
          rintro e w3 ⟨rfl, h1, _⟩
          have H2 := Lib.hid h1
          clear h1 H1
          go_wp2_with fail
          refine (ln_mend H2.out (by simp only [maxLen]; omega) 0 1 (by decide) (by decide)).mono ?_
          rintro e w4 ⟨rfl, h1, _⟩
          have HL := Lib.hid h1
          have HF := Lib.hid (HLAST.out _ hf.out.off)
          clear h1 H2 hf hl HLAST H10 H01
          go_wp2_with fail
          refine (ln_deliver HL.out (by simp only [maxLen]; omega) 1 0 63 (by decide) (by decide) (by unfold I64; omega)).mono ?_
          rintro e w5 ⟨⟨A1, c1, he⟩, h1, _⟩
          obtain ⟨q, hq, hqt⟩ := HF.out.1
          rw [hq] at he
          subst he
          clear hq
          have H5 := Lib.hid h1
          clear h1 HL
          go_wp2_with fail
          refine (ln_waiting (H5.out.ext0 (x0 w5 _)) 0 1 (by decide) (by decide)).mono ?_
          rintro e w5' ⟨rfl, rfl⟩
          rw [HF.out.2]
          go_wp2_with fail
          refine (NetRuns_any _).mono ?_
          rintro e w6 ⟨rfl, hx⟩
          have H6 := Lib.hid ((H5.out.ext0 (x0 w5 _)).ext0 hx)
          clear hx H5
          go_wp2_with fail
          go_ret
          exact ⟨rfl, by obtain ⟨M, C, h1, h2, _⟩ := H6.out; exact h2⟩
        | false =>
          have HF := Lib.hid (HLAST.out _ hf.out)
          have HL := Lib.hid hl.out
          clear hf hl HLAST H10 H01
          go_wp2_with fail
          refine (ln_deliver HL.out (by simp only [maxLen]; omega) 1 0 63 (by decide) (by decide) (by unfold I64; omega)).mono ?_
          rintro e w5 ⟨⟨A1, c1, he⟩, h1, _⟩
          obtain ⟨q, hq, hqt⟩ := HF.out.1
          rw [hq] at he
          subst he
          clear hq
          have H5 := Lib.hid h1
          clear h1 HL
          go_wp2_with fail
          refine (ln_waiting (H5.out.ext0 (x0 w5 _)) 0 1 (by decide) (by decide)).mono ?_
          rintro e w5' ⟨rfl, rfl⟩
          rw [HF.out.2]
          go_wp2_with fail
          refine (NetRuns_any _).mono ?_
          rintro e w6 ⟨rfl, hx⟩
          have H6 := Lib.hid ((H5.out.ext0 (x0 w5 _)).ext0 hx)
          clear hx H5
          go_wp2_with fail
          go_ret
          exact ⟨rfl, by obtain ⟨M, C, h1, h2, _⟩ := H6.out; exact h2⟩
      · have h61 : 0 < i := by omega
        have hmin : ((min i 64 : Nat) : Int) = (64 + k) := by omega
        rw [hmin] at H10
        have HLAST := Lib.hid (fun N (h : F2 N i) => h.last (64 + k) (64 + k - 1) (by omega) hmin.symm (by omega))
        go_wp2_with fail
        refine (ln_waiting hl.out 1 0 (by decide) (by decide)).mono ?_
        rintro e w2 ⟨rfl, rfl⟩
        rw [H10.out]
        go_wp2_with fail
        refine (ln_waiting hl.out 0 1 (by decide) (by decide)).mono ?_
        rintro e w2 ⟨rfl, rfl⟩
        rw [H01.out]
        cases cut with
        | true =>
          go_wp2_with fail
          refine (ln_cut hl.out (by simp only [maxLen]; omega) 0 1 (by decide) (by decide)).mono ?_
          rintro e w2 ⟨rfl, h1, _⟩
          have H1 := Lib.hid h1
          clear h1
          go_wp2_with fail
          refine (ln_s1 H1.out (by simp only [maxLen]; omega) (mkM 1 0 1 1) ⟨by show I64 0; decide, by show I64 1; decide, rfl⟩).mono ?_
          rintro e w3 ⟨rfl, h1, _⟩
          have H2 := Lib.hid h1
          clear h1 H1
          go_wp2_with fail
          refine (ln_mend H2.out (by simp only [maxLen]; omega) 0 1 (by decide) (by decide)).mono ?_
          rintro e w4 ⟨rfl, h1, _⟩
          have HL := Lib.hid h1
          have HF := Lib.hid (HLAST.out _ hf.out.off)
          clear h1 H2 hf hl HLAST H10 H01
          go_wp2_with fail
          refine (ln_deliver HL.out (by simp only [maxLen]; omega) 1 0 (64 + k - 1) (by decide) (by decide) (by unfold I64; omega)).mono ?_
          rintro e w5 ⟨⟨A1, c1, he⟩, h1, _⟩
          obtain ⟨q, hq, hqt⟩ := HF.out.1
          rw [hq] at he
          subst he
          clear hq
          have H5 := Lib.hid h1
          clear h1 HL
          go_wp2_with fail
          refine (ln_waiting (H5.out.ext0 (x0 w5 _)) 0 1 (by decide) (by decide)).mono ?_
          rintro e w5' ⟨rfl, rfl⟩
          rw [HF.out.2]
          go_wp2_with fail
          refine (NetRuns_any _).mono ?_
          rintro e w6 ⟨rfl, hx⟩
          have H6 := Lib.hid ((H5.out.ext0 (x0 w5 _)).ext0 hx)
          clear hx H5
          go_wp2_with fail
          go_ret
          exact ⟨rfl, by obtain ⟨M, C, h1, h2, _⟩ := H6.out; exact h2⟩
        | false =>
          have HF := Lib.hid (HLAST.out _ hf.out)
          have HL := Lib.hid hl.out
          clear hf hl HLAST H10 H01
          go_wp2_with fail
          refine (ln_deliver HL.out (by simp only [maxLen]; omega) 1 0 (64 + k - 1) (by decide) (by decide) (by unfold I64; omega)).mono ?_
          rintro e w5 ⟨⟨A1, c1, he⟩, h1, _⟩
          obtain ⟨q, hq, hqt⟩ := HF.out.1
          rw [hq] at he
          subst he
          clear hq
          have H5 := Lib.hid h1
          clear h1 HL
          go_wp2_with fail
          refine (ln_waiting (H5.out.ext0 (x0 w5 _)) 0 1 (by decide) (by decide)).mono ?_
          rintro e w5' ⟨rfl, rfl⟩
          rw [HF.out.2]
          go_wp2_with fail
          refine (NetRuns_any _).mono ?_
          rintro e w6 ⟨rfl, hx⟩
          have H6 := Lib.hid ((H5.out.ext0 (x0 w5 _)).ext0 hx)
          clear hx H5
          go_wp2_with fail
          go_ret
          exact ⟨rfl, by obtain ⟨M, C, h1, h2, _⟩ := H6.out; exact h2⟩
theorem NetFull_row (more : Int) (hm : (Lit.int .i64 more).wf = true) (cut : Bool) {w : World} : Calls Try.prog 5 #[.int .i64 more, .bool cut] w fun e w' => e = .returned (.bool true) ∧ Ext None_ w w' :=
  NetFull_any more cut (i64_of hm) w
end Go.Proofs.Ythjabbheobpoeaa
