/- The document's disk, walked: Cut. Written by gen_rd6.py. -/
import Derived.Test.YtakcdmmniaipeaaRd5
set_option linter.unusedVariables false
set_option linter.unusedSimpArgs false
namespace Go.Proofs.Ytakcdmmniaipeaa
open Go.RowKit B
theorem RefAt.files {w : World} {Z : Nat → Prop} {g : Nat} {D : DS} (h : RefAt w Z g D) (F : List (List Int)) : RefAt w Z g { D with files := F } := ⟨h.lay, h.far, h.zlt⟩
/-- What the append of a change leaves. -/
theorem rd_wait {w w1 w2 w4 : World} {Z : Nat → Prop} {g : Nat} {D1 : DS} {F : List (List Int)} {c : Chg} {u : Value} (hX : Ext (fun k => k = g) w w1) (hD : RD w1 Z g D1) (hX2 : Ext None_ w1 w2) (hX4 : Ext None_ w2 w4) (hu : RW w4 (Zx w2 Z) u (D1.wait ++ [c])) (hF : F = stepF D1.files c) (hok : DS.ok { D1 with files := F, wait := D1.wait ++ [c] }) (hl : D1.wait.length + 1 ≤ 1000) :
    RLeft w (w4.setCell ⟨g, 1, none⟩ u) Z g { D1 with files := F, wait := D1.wait ++ [c] } ∧ (w4.cell? ⟨g, 1, none⟩).isSome = true ∧ w4.frozen? ⟨g, 1, none⟩ = false := by
  obtain ⟨s1, s2, s3, s4⟩ := (hD.at_.ext0 hX2).setWait hX4 hu
  refine ⟨⟨Zr w4 (Zx w2 Z), ⟨s1.files F, hok, ?_, by simp; omega⟩, ((hX.trans0 hX2).trans s2 (fun _ _ h => h)), fun k hk => ?_⟩, s3, s4⟩
  · show F = rp (D1.wait ++ [c]) D1.safe
    rw [rp_step, ← hD.fi, hF]
  · rcases hk.1 with h | h
    · exact .inl h
    · exact .inr (Nat.le_trans (Nat.le_trans hX.size hX2.size) h)
theorem cut_fin {w1 w2 w3 w4 : World} {Z : Nat → Prop} {D1 : DS} {pv : List Value} {wl : Nat} {c : Chg} {v3 u : Value} {X : Array Value} (h2 : Ext None_ w1 w2) (h3 : Ext None_ w2 w3) (hl : pv.length = D1.wait.length) (hs : ∀ (i : Nat) (c : Chg) (u : Value), D1.wait[i]? = some c → pv[i]? = some u → Sl w2 Z u c.p) (hw : wl = D1.wait.length)
    (ho3 : Own w3 109 4 (fun k => w2.heap.size ≤ k ∨ (w2.alloc (.cells #[] 109)).heap.size ≤ k) v3 wl (rchs D1.wait pv)) (ho4 : Own w4 109 4 (fun k => v3.ownBlock = some k ∨ (w3.alloc (.cells X 109)).heap.size ≤ k) u (wl + 1) (rchs D1.wait pv ++ rch c (.slice none 0 0))) (hx4 : Ext (fun k => v3.ownBlock = some k) (w3.alloc (.cells X 109)) w4) (hc : c.p = [] := by rfl) :
    Ext None_ w2 w4 ∧ RW w4 (Zx w2 Z) u (D1.wait ++ [c]) := by
  have hs3 := h3.size
  have hb : ∀ k, v3.ownBlock = some k → w2.heap.size ≤ k := fun k hk => by
    rcases ho3.blk k hk with h | h
    · exact h
    · simp at h; omega
  have hX : Ext None_ w2 w4 := (h3.alloc _).trans hx4 (fun k hk e => absurd (hb k e) (Nat.not_le.2 hk))
  subst hw
  refine ⟨hX, rw_app hX hl hs (by rw [hc]; exact Sl.nil _ _) ho4 (fun k hk => ?_)⟩
  rcases hk with h | h
  · exact hb k h
  · simp at h; omega
set_option maxRecDepth 100000 in
set_option maxHeartbeats 8000000 in
theorem rcut_any (w : World) (Z : Nat → Prop) (g : Nat) (D : DS) (f z : Int) (h : RD w Z g D) (hok : (cutD D f z).2.ok) (hl : D.wait.length + 1 ≤ 1000) : Calls Try.prog 57 #[.pointer (some ⟨g, 0, none⟩), .int .i64 f, .int .i64 z] w fun e w' => e = .returned (.int .i64 (cutD D f z).1) ∧ RLeft w w' Z g (cutD D f z).2 := by
  have HC := Lib.hid (rcount w Z g D h)
  have hlw : (countD D).2.wait.length + 1 ≤ 1000 := by rw [(countD_safe D).2.1]; exact hl
  clear h hl
  unfold cutD at hok ⊢
  obtain ⟨⟨b, D1⟩, hD⟩ : ∃ z, z = countD D := ⟨_, rfl⟩
  rw [← hD] at HC hok hlw ⊢
  clear hD
  simp only at HC hok hlw ⊢
  cases b with
  | false =>
    rw [if_neg (by decide)]
    clear hok
    go_enter Try.func57, Try.ntmps57
    go_wp2_with fail
    refine HC.out.mono ?_
    rintro e w1 ⟨rfl, hd, hx⟩
    have HD := Lib.hid hd
    have HX := Lib.hid hx
    clear hd hx HC
    go_wp2_with fail
    go_ret
    exact ⟨rfl, Z, HD.out, HX.out, fun _ h => .inl h⟩
  | true =>
    rw [if_pos rfl] at hok ⊢
    obtain ⟨bf, hbf⟩ : ∃ b, b = inF f := ⟨_, rfl⟩
    have HT : Hid (∀ W, Calls Try.prog 80 #[.int .i64 f] W fun e w' => e = .returned (.bool bf) ∧ W = w') := Lib.hid (fun W => hbf ▸ rfile_any f W)
    cases bf with
    | false =>
      rw [if_neg (by unfold cutOk; rw [← hbf]; simp)]
      clear hok hbf
      go_enter Try.func57, Try.ntmps57
      go_wp2_with fail
      refine HC.out.mono ?_
      rintro e w1 ⟨rfl, hd, hx⟩
      have HD := Lib.hid hd
      have HX := Lib.hid hx
      clear hd hx HC
      go_wp2_with fail
      refine (HT.out w1).mono ?_
      rintro e wf ⟨rfl, rfl⟩
      go_wp2_with fail
      go_ret
      exact ⟨rfl, Z, HD.out, HX.out, fun _ h => .inl h⟩
    | true =>
      obtain ⟨hf0, hf1⟩ := inF_true hbf.symm
      obtain ⟨n, rfl⟩ : ∃ n : Nat, f = n := ⟨f.toNat, by omega⟩
      have hn64 : n < 64 := by omega
      by_cases hz : z < 0
      · rw [if_neg (by unfold cutOk; simp; omega)]
        clear hok hbf
        go_enter Try.func57, Try.ntmps57
        go_wp2_with fail
        refine HC.out.mono ?_
        rintro e w1 ⟨rfl, hd, hx⟩
        have HD := Lib.hid hd
        have HX := Lib.hid hx
        clear hd hx HC
        go_wp2_with fail
        refine (HT.out w1).mono ?_
        rintro e wf ⟨rfl, rfl⟩
        go_wp2_with fail
        go_ret
        exact ⟨rfl, Z, HD.out, HX.out, fun _ h => .inl h⟩
      · obtain ⟨m, rfl⟩ : ∃ m : Nat, z = m := ⟨z.toNat, by omega⟩
        obtain ⟨l, hle⟩ : ∃ l, l = fileAt D1.files n := ⟨_, rfl⟩
        have HLE := Lib.hid hle
        by_cases hm : m ≤ l.length
        · have hco : cutOk D1 n m = true := by unfold cutOk; rw [← hbf, ← hle]; simp; exact hm
          rw [if_pos hco] at hok ⊢
          simp only [Int.toNat_natCast] at hok ⊢
          rw [← hle] at hok ⊢
          have HOK := Lib.hid hok
          have HF : Hid (D1.files.set n (l.take m) = stepF D1.files ⟨true, n, m, []⟩) := Lib.hid (by
            rw [stepF_eq, if_pos rfl, ← hle, if_pos hm])
          have HBS := fun W => rch_slice n 0 m none 0 0 W
          clear hok hbf hle hco hf0 hf1 hz
          go_enter Try.func57, Try.ntmps57
          go_wp2_with fail
          refine HC.out.mono ?_
          rintro e w1 ⟨rfl, hd, hx⟩
          have HD := Lib.hid hd
          have HX := Lib.hid hx
          clear hd hx HC
          go_wp2_with fail
          refine (HT.out w1).mono ?_
          rintro e wf ⟨rfl, rfl⟩
          go_wp2_with fail
          refine (rnow_any w1 Z g D1 HD.out).mono ?_
          rintro e w2 ⟨v', rfl, hr, hx2⟩
          obtain ⟨b, c, A, cc, rfl, h1, h2, h3, h4, _⟩ := hr.file (i := n) (by rw [HD.out.ok.f64]; exact hn64)
          have h64 := HD.out.ok.f64
          rw [← HLE.out] at h3 h4
          have HX2 := Lib.hid hx2
          clear hr hx2
          have HD2 := Lib.hid (HD.out.ext0 HX2.out)
          obtain ⟨b0, cx, A0, c2, ⟨k0, k1, k2, k3, k4⟩, cf, _, hrw⟩ := HD2.out.at_.cells
          obtain ⟨A0', c0', pv, e0, w1c, w2c, hpl, hrow, hAb, hsl⟩ := hrw
          obtain ⟨rfl, rfl⟩ : A0 = A0' ∧ c2 = c0' := by
            have := e0
            simp at this
            exact this
          have HROW := Lib.hid hrow
          have HSL := Lib.hid hsl
          have HPL := Lib.hid hpl
          obtain ⟨wl, hwl⟩ : ∃ x, x = D1.wait.length := ⟨_, rfl⟩
          have HWL := Lib.hid hwl
          rw [← hwl] at k1 w1c hlw
          have HRL : Hid ((rchs D1.wait pv).length = wl * 4) := Lib.hid (by rw [rchs_length _ _ hpl, hwl])
          have HOW : Hid (Own (w2.alloc (.cells #[] 109)) 109 4 (fun k => w2.heap.size ≤ k) (.slice (some ⟨w2.heap.size, 0, none⟩) 0 0) 0 []) := Lib.hid ((Own.made (e := 109) (size := 4) w2 #[] 0 (by simp [maxLen]) rfl).mono (fun k _ e => by omega))
          have k1a := fun o => ((Ext.refl None_ w2).alloc o).cell k1 (fun a => a)
          clear e0 hrow hAb hsl hpl hwl
          go_wp2_with (first
            | (at_builtin; refine wpList_app0 rfl (.tmp 28) (.tmp 32) 89 rfl 109 _ 4 48 Try.underlying89 infoRch rfl (by decide) (by decide) (fun k => w2.heap.size ≤ k) w2.heap.size rfl HOW.out A0 wl c2 (rchs D1.wait pv) rfl HRL.out (HROW.out.ext0 (x0 w2 _)) (rchs_one HPL.out HSL.out) (by omega) ?_; intro v3 w3 ho3 hx3; have HO3 := Lib.hid ho3; have HX3 := Lib.hid ((x0 w2 _).trans0 hx3); clear ho3 hx3)
            | (at_builtin; refine app rfl (.tmp 33) (.tmp 37) 89 rfl 109 _ 4 48 Try.underlying89 infoRch rfl (by decide) (by decide) _ v3 wl (rchs D1.wait pv) rfl (HO3.out.alloc _) (some ⟨w3.heap.size, 0, none⟩) 1 1 (rch ⟨true, n, m, []⟩ (.slice none 0 0)) rfl rfl (Blk.new w3 _ _).row (rch_one (Sl.nil w2 Z)) (by omega) ?_; intro u w4 ho4 hx4; obtain ⟨Au, cu, rfl, _⟩ := Own.slice ho4; obtain ⟨HX4, HU⟩ := cut_fin HX2.out HX3.out HPL.out HSL.out HWL.out HO3.out ho4 hx4; have HL := rd_wait HX.out HD.out HX2.out HX4 HU HF.out HOK.out (by have := HWL.out; omega); have kc := HX4.cell k1 (fun a => a); have kf := HL.2.2; have HLL := Lib.hid HL.1; clear ho4 hx4 HL HX4 HU))
          go_ret
          exact ⟨rfl, HLL.out⟩
        · rw [if_neg (by unfold cutOk; rw [← hle]; simp; omega)]
          clear hok hbf hle
          go_enter Try.func57, Try.ntmps57
          go_wp2_with fail
          refine HC.out.mono ?_
          rintro e w1 ⟨rfl, hd, hx⟩
          have HD := Lib.hid hd
          have HX := Lib.hid hx
          clear hd hx HC
          go_wp2_with fail
          refine (HT.out w1).mono ?_
          rintro e wf ⟨rfl, rfl⟩
          go_wp2_with fail
          refine (rnow_any w1 Z g D1 HD.out).mono ?_
          rintro e w2 ⟨v', rfl, hr, hx2⟩
          obtain ⟨b, c, A, cc, rfl, h1, h2, h3, h4, _⟩ := hr.file (i := n) (by rw [HD.out.ok.f64]; exact hn64)
          have h64 := HD.out.ok.f64
          rw [← HLE.out] at h3 h4
          have HX2 := Lib.hid hx2
          clear hr hx2
          go_wp2_with fail
          go_ret
          exact ⟨rfl, Z, HD.out.ext0 HX2.out, HX.out.trans0 HX2.out, fun _ h => .inl h⟩
end Go.Proofs.Ytakcdmmniaipeaa
