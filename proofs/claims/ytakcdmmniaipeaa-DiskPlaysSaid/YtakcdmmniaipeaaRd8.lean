/- The document's disk, walked: Crash. -/
import Derived.Test.YtakcdmmniaipeaaRd7
set_option linter.unusedVariables false
set_option linter.unusedSimpArgs false
namespace Go.Proofs.Ytakcdmmniaipeaa
open Go.RowKit B
/-! ### what is kept, no program in sight -/
def keptL (keep : Int) (ch : List Chg) : Nat → List Chg
  | 0 => []
  | k + 1 => match ch[k]? with | some c => if bitK keep k = true then keptL keep ch k ++ [c] else keptL keep ch k | none => keptL keep ch k
theorem keptL_succ {keep : Int} {ch : List Chg} {k : Nat} {c : Chg} (h : ch[k]? = some c) : keptL keep ch (k + 1) = if bitK keep k = true then keptL keep ch k ++ [c] else keptL keep ch k := by
  simp only [keptL, h]
theorem keptL_mem {keep : Int} {ch : List Chg} : ∀ k, ∀ c ∈ keptL keep ch k, c ∈ ch
  | 0, c, h => by simp [keptL] at h
  | k + 1, c, h => by
    have ih := keptL_mem (keep := keep) (ch := ch) k
    simp only [keptL] at h
    split at h
    · rename_i q hq
      split at h
      · rcases List.mem_append.1 h with h | h
        · exact ih c h
        · rw [List.mem_singleton] at h
          subst h
          exact List.mem_of_getElem? hq
      · exact ih c h
    · exact ih c h
theorem keptL_le {keep : Int} {ch : List Chg} : ∀ k, (keptL keep ch k).length ≤ k
  | 0 => by simp [keptL]
  | k + 1 => by
    have ih := keptL_le (keep := keep) (ch := ch) k
    simp only [keptL]
    split
    · split
      · rw [List.length_append, List.length_singleton]; omega
      · omega
    · omega
def tornC (torn : Int) (c : Chg) : Chg := if c.cut = false ∧ 0 ≤ torn ∧ torn < c.p.length then { c with p := c.p.take torn.toNat } else c
theorem tornC_ok {torn : Int} {c : Chg} (h : c.ok) : (tornC torn c).ok := by
  unfold tornC
  split
  · exact ⟨h.1, by have := h.2; simp only [List.length_take]; omega⟩
  · exact h
/-- The last one torn. -/
def TL (torn : Int) (ks : List Chg) : List Chg := ks.dropLast ++ (ks.getLast?.map (tornC torn)).toList
theorem TL_app (torn : Int) (ks : List Chg) (c : Chg) : TL torn (ks ++ [c]) = ks ++ [tornC torn c] := by
  unfold TL
  rw [List.dropLast_concat]
  simp
theorem TL_length (torn : Int) (ks : List Chg) : (TL torn ks).length = ks.length := by
  rcases List.eq_nil_or_concat ks with rfl | ⟨l, c, rfl⟩
  · rfl
  · rw [List.concat_eq_append, TL_app]; simp
theorem TL_at {torn : Int} {ks : List Chg} {j : Nat} {c : Chg} (h : ks[j]? = some c) : (TL torn ks)[j]? = some (if j + 1 = ks.length then tornC torn c else c) := by
  rcases List.eq_nil_or_concat ks with rfl | ⟨l, q, rfl⟩
  · simp at h
  · rw [List.concat_eq_append] at h ⊢
    rw [TL_app]
    have hj := (List.getElem?_eq_some_iff.1 h).1
    rw [List.length_append, List.length_singleton] at hj ⊢
    by_cases e : j = l.length
    · subst e
      rw [List.getElem?_append_right (Nat.le_refl _), Nat.sub_self] at h ⊢
      simp at h ⊢
      rw [h]
    · rw [List.getElem?_append_left (by omega)] at h ⊢
      rw [if_neg (by omega), h]
def KT (keep torn last : Int) (ch : List Chg) : Nat → List Chg
  | 0 => []
  | k + 1 => match ch[k]? with | some c => if bitK keep k = true then KT keep torn last ch k ++ [if (k : Int) = last then tornC torn c else c] else KT keep torn last ch k | none => KT keep torn last ch k
theorem crN_fold (keep torn last : Int) (ch : List Chg) (F : List (List Int)) : ∀ k, crN keep torn last ch F k = (KT keep torn last ch k).foldl stepF F
  | 0 => rfl
  | k + 1 => by
    have ih := crN_fold keep torn last ch F k
    cases hc : ch[k]? with
    | none =>
      simp only [crN, KT, hc]
      exact ih
    | some c =>
      rw [crN_succ hc]
      simp only [KT, hc]
      unfold crStep
      by_cases hb : bitK keep k = true
      · rw [if_pos hb, if_pos hb, List.foldl_append, ← ih, List.foldl_cons, List.foldl_nil, stepF_eq]
        obtain ⟨cut, f, a, p⟩ := c
        by_cases hl : (k : Int) = last
        · rw [if_pos hl]
          unfold tornC tornP
          cases cut with
          | true => simp
          | false =>
            by_cases ht : 0 ≤ torn ∧ torn < p.length
            · simp [hl, ht]
            · have e1 : ¬ ((k : Int) = last ∧ 0 ≤ torn ∧ torn < (p.length : Int)) := fun h => ht ⟨h.2.1, h.2.2⟩
              have e2 : ¬ ((Chg.mk false f a p).cut = false ∧ 0 ≤ torn ∧ torn < ((Chg.mk false f a p).p.length : Int)) := fun h => ht ⟨h.2.1, h.2.2⟩
              rw [if_neg e2]
              simp only
              rw [if_neg e1]
        · rw [if_neg hl]
          have e1 : tornP torn last k p = p := by
            unfold tornP
            rw [if_neg (fun h => hl h.1)]
          simp only [e1]
      · rw [if_neg hb, if_neg hb]
        exact ih
theorem KT_succ {keep torn last : Int} {ch : List Chg} {k : Nat} {c : Chg} (h : ch[k]? = some c) : KT keep torn last ch (k + 1) = if bitK keep k = true then KT keep torn last ch k ++ [if (k : Int) = last then tornC torn c else c] else KT keep torn last ch k := by
  simp only [KT, h]
theorem KT_low (keep torn last : Int) (ch : List Chg) (k : Nat) (hk : k ≤ ch.length) (h : (k : Int) ≤ last) : KT keep torn last ch k = keptL keep ch k := by
  induction k with
  | zero => rfl
  | succ k ih =>
    have hc : ch[k]? = some ch[k] := List.getElem?_eq_getElem (by omega)
    have e : ¬ ((k : Int) = last) := by omega
    rw [KT_succ hc, keptL_succ hc, ih (by omega) (by omega), if_neg e]
theorem KT_last (keep torn : Int) (ch : List Chg) (n : Nat) (h : n ≤ ch.length) : KT keep torn (lastK keep n) ch n = TL torn (keptL keep ch n) := by
  induction n with
  | zero => rfl
  | succ n ih =>
    have ih := ih (by omega)
    have hc : ch[n]? = some ch[n] := List.getElem?_eq_getElem (by omega)
    rw [keptL_succ hc]
    by_cases hb : bitK keep n = true
    · have hl : lastK keep (n + 1) = n := by simp [lastK, hb]
      rw [hl, KT_succ hc, if_pos hb, if_pos hb, if_pos rfl, KT_low _ _ _ _ n (by omega) (Int.le_refl _), TL_app]
    · have hl : lastK keep (n + 1) = lastK keep n := by simp [lastK, hb]
      rw [hl, KT_succ hc, if_neg hb, if_neg hb]
      exact ih
theorem crash_fold (D : DS) (keep torn : Int) : (crashD D keep torn).safe = (TL torn (keptL keep D.wait D.wait.length)).foldl stepF D.safe ∧ (crashD D keep torn).files = (crashD D keep torn).safe := by
  refine ⟨?_, rfl⟩
  show crN keep torn (lastK keep D.wait.length) D.wait D.safe D.wait.length = _
  rw [crN_fold, KT_last _ _ _ _ (Nat.le_refl _)]
theorem fold_small {F : List (List Int)} (h64 : F.length = 64) (hs : ∀ l ∈ F, l.length ≤ 1048576) : ∀ (ks : List Chg), (∀ c ∈ ks, c.ok) → (ks.foldl stepF F).length = 64 ∧ ∀ l ∈ ks.foldl stepF F, l.length ≤ 1048576 := by
  intro ks
  induction ks generalizing F with
  | nil => intro _; exact ⟨h64, hs⟩
  | cons c r ih =>
    intro hc
    rw [List.foldl_cons]
    exact ih (by rw [stepF_length]; exact h64) (stepF_small hs (hc c (List.mem_cons_self ..)) h64) (fun q hq => hc q (List.mem_cons_of_mem _ hq))
theorem fold_take {F : List (List Int)} {ks : List Chg} {j : Nat} {c : Chg} (h : ks[j]? = some c) : (ks.take (j + 1)).foldl stepF F = stepF ((ks.take j).foldl stepF F) c := by
  rw [List.take_add_one, h, List.foldl_append]
  rfl
/-! ### the row of what is kept -/
def KR (w : World) (Z : Nat → Prop) (W : World) (v : Value) (ks : List Chg) : Prop := ∃ pv, pv.length = ks.length ∧ Own W 109 4 (fun b => w.heap.size ≤ b) v ks.length (rchs ks pv) ∧ ∀ (i : Nat) (c : Chg) (u : Value), ks[i]? = some c → pv[i]? = some u → Sl W Z u c.p
theorem KR.nil (w W : World) (Z : Nat → Prop) : KR w Z W (.slice none 0 0) [] := ⟨[], rfl, Own.nil _ _ _ _, fun i c u h => by simp at h⟩
theorem KR.ext0 {w W W1 : World} {Z : Nat → Prop} {v : Value} {ks : List Chg} (h : KR w Z W v ks) (hx : Ext None_ W W1) : KR w Z W1 v ks := by
  obtain ⟨pv, h1, h2, h3⟩ := h
  exact ⟨pv, h1, h2.ext0 hx, fun i c u a b => (h3 i c u a b).ext hx (fun _ _ a => a)⟩
theorem KR.app {w W w2 : World} {Z : Nat → Prop} {v u uc : Value} {ks : List Chg} {c : Chg} {pv : List Value} {X : Array Value} (hz : ∀ k, Z k → k < w.heap.size) (hw : w.heap.size ≤ W.heap.size) (h1 : pv.length = ks.length) (h2 : ∀ k, v.ownBlock = some k → w.heap.size ≤ k) (h3 : ∀ (i : Nat) (c : Chg) (u : Value), ks[i]? = some c → pv[i]? = some u → Sl W Z u c.p) (hu : Sl W Z uc c.p)
    (ho : Own w2 109 4 (fun k => v.ownBlock = some k ∨ (W.alloc (.cells X 109)).heap.size ≤ k) u (ks.length + 1) (rchs ks pv ++ rch c uc)) (hx : Ext (fun k => v.ownBlock = some k) (W.alloc (.cells X 109)) w2) : KR w Z w2 u (ks ++ [c]) := by
  have e : rchs ks pv ++ rch c uc = rchs (ks ++ [c]) (pv ++ [uc]) := by
    rw [rchs_append _ _ _ _ h1]
    simp [rchs]
  rw [e] at ho
  have hn : ∀ k, Z k → ¬ v.ownBlock = some k := fun k hk e => by have := hz k hk; have := h2 k e; omega
  have hS : ∀ (c : Chg) (u : Value), Sl W Z u c.p → Sl w2 Z u c.p := fun c u h => (h.ext (x0 W _) (fun _ _ a => a)).ext hx hn
  refine ⟨pv ++ [uc], by simp [h1], ?_, fun i q y h4 h5 => ?_⟩
  · rw [List.length_append, List.length_singleton]
    exact ho.mono (fun k _ h => by
      rcases h with h | h
      · exact h2 k h
      · simp at h; omega)
  · by_cases hi : i < ks.length
    · rw [List.getElem?_append_left hi] at h4
      rw [List.getElem?_append_left (by omega)] at h5
      exact hS _ _ (h3 i q y h4 h5)
    · have hi2 : i = ks.length := by
        have := (List.getElem?_eq_some_iff.1 h4).1
        simp at this
        omega
      subst hi2
      rw [List.getElem?_append_right (Nat.le_refl _), Nat.sub_self] at h4
      rw [List.getElem?_append_right (by omega), h1, Nat.sub_self] at h5
      cases h4
      cases h5
      exact hS _ _ hu
theorem KR.rw {w W : World} {Z : Nat → Prop} {v : Value} {ks : List Chg} (h : KR w Z W v ks) : RW W (Zx w Z) v ks := by
  obtain ⟨pv, h1, h2, h3⟩ := h
  exact RW.own h2 h1 (fun i c u a b => (h3 i c u a b).mono (fun _ _ h => .inl h)) (fun k _ h => .inr h)
/-! ### the walk -/
theorem RD.crashed {w wr : World} {Z : Nat → Prop} {D : DS} {keep torn : Int} {v : Value} {F : List (List Int)} (hF : F = (crashD D keep torn).safe) (hok : (crashD D keep torn).ok) (hr : RF wr (Zx w Z) v F) {q : Int} (hq : q = D.quota) : RD (wr.alloc (.cells #[v, .slice none 0 0, .int .i64 q, .int .i64 0, .bool false] 91)) (Zr wr (Zx w Z)) wr.heap.size (crashD D keep torn) := by
  subst hq hF
  refine ⟨⟨⟨v, _, Blk.new wr _ _, (hr.mono (fun k hk h => ⟨h, hk⟩)).ext0 (x0 wr _), RW.nil _ _⟩, fun h => Nat.lt_irrefl _ h.2, fun k h => by have := h.2; simp; omega⟩, hok, rfl, by simp [crashD, emptyD]⟩
set_option maxRecDepth 100000 in
set_option maxHeartbeats 16000000 in
theorem rcrash_any (w : World) (Z : Nat → Prop) (g : Nat) (D : DS) (keep torn : Int) (h : RD w Z g D) (hk : I64 keep) (hok : (crashD D keep torn).ok) : Calls Try.prog 60 #[.pointer (some ⟨g, 0, none⟩), .int .i64 keep, .int .i64 torn] w fun e w' => ∃ g' Z', e = .returned (.pointer (some ⟨g', 0, none⟩)) ∧ RD w' Z' g' (crashD D keep torn) ∧ (∀ k, Z' k → Z k ∨ w.heap.size ≤ k) ∧ w.heap.size ≤ g' ∧ Ext None_ w w' := by
  have hln := h.len
  have HOK := Lib.hid h.ok
  have HZ := Lib.hid h.at_.zlt
  obtain ⟨b, c, A, c2, ⟨c0, c1, c3, _, _⟩, _, hrf, hrw⟩ := h.at_.cells
  have HW := Lib.hid hrw
  have HF0 := Lib.hid hrf
  obtain ⟨n, hn⟩ : ∃ n, n = D.wait.length := ⟨_, rfl⟩
  have HN := Lib.hid hn
  rw [← hn] at c1 hln
  have HCF := Lib.hid (crash_fold D keep torn)
  have HCOK := Lib.hid hok
  clear h hrf hrw hn hok
  go_enter Try.func60, Try.ntmps60
  go_wp2_with fail
  go_loopw [7, 8] (fun v7 v8 wr => ∃ (k : Nat), v8 = .int .i64 k ∧ k ≤ n ∧ Hid (KR w Z wr v7 (keptL keep D.wait k)) ∧ Hid (Ext None_ w wr)) (fun _ v8 _ => n - (intOf v8).toNat)
  case atStart => exact ⟨0, rfl, by omega, Lib.hid (KR.nil _ _ _), Lib.hid (Ext.refl _ _)⟩
  case round =>
    obtain ⟨k, rfl, hk1, hkr, hx⟩ := hrel
    have d1 := hx.out.cell c1 (fun a => a)
    by_cases hend : k = n
    · subst hend
      have d0 := hx.out.cell c0 (fun a => a)
      have d3 := hx.out.cell c3 (fun a => a)
      obtain ⟨KS, hKS⟩ : ∃ x, x = keptL keep D.wait k := ⟨_, rfl⟩
      have HKS := Lib.hid hKS
      rw [← hKS] at hkr
      obtain ⟨m, hm⟩ : ∃ x, x = KS.length := ⟨_, rfl⟩
      have hm1 : m ≤ 1000 := by have := keptL_le (keep := keep) (ch := D.wait) k; rw [hm, hKS]; omega
      have HM := Lib.hid hm
      have HKW := Lib.hid hkr.out.rw
      obtain ⟨A7, c7, pv7, e7, _⟩ := hkr.out.rw
      rw [← hm] at e7
      subst e7
      have HOKS : Hid (∀ q ∈ KS, q.ok) := Lib.hid (fun q hq => HOK.out.chg q (keptL_mem k q (hKS ▸ hq)))
      have HX0 := hx
      have HFS : Hid (RF wr (Zx w Z) (.slice (some ⟨b, 0, none⟩) D.safe.length c) (((TL torn KS).take 0).foldl stepF D.safe)) := Lib.hid ((HF0.out.ext0 hx.out).mono (fun _ _ h => .inl h))
      obtain ⟨wK, hwK⟩ : ∃ x, x = wr := ⟨_, rfl⟩
      rw [← hwK] at HKW
      have HXK : Hid (Ext None_ wK wr) := Lib.hid (hwK ▸ Ext.refl _ _)
      clear hkr hKS hm hwK hx
      go_wp2_with fail
      clear d1
      go_loopw [9, 10] (fun v9 v10 wr => ∃ (j : Nat), v10 = .int .i64 j ∧ j ≤ m ∧ Hid (RF wr (Zx w Z) v9 (((TL torn KS).take j).foldl stepF D.safe)) ∧ Hid (Ext None_ w wr) ∧ Hid (Ext None_ wK wr)) (fun _ v10 _ => m - (intOf v10).toNat)
      case atStart => exact ⟨0, rfl, by omega, HFS, HX0, HXK⟩
      case round =>
        clear HFS HX0 HXK d0 d3
        obtain ⟨j, rfl, hj, hrf, hx, hxk⟩ := hrel
        by_cases hje : j = m
        · subst hje
          have d3 := hx.out.cell c3 (fun a => a)
          have HFN : Hid ((((TL torn KS).take j).foldl stepF D.safe) = (crashD D keep torn).safe) := Lib.hid (by rw [HM.out, ← TL_length torn KS, List.take_length, HKS.out, HN.out]; exact HCF.out.1.symm)
          obtain ⟨bq, cq, vsq, rfl, _⟩ := id hrf.out
          go_wp2_with fail
          go_ret
          refine ⟨_, _, rfl, RD.crashed HFN.out HCOK.out hrf.out rfl, fun k hk => hk.1, hx.out.size, hx.out.trans0 (x0 _ _)⟩
        -- LOOP2
        · have hjl : j < m := by omega
          obtain ⟨ad, cx, B, cb, e0, h1, h2, ⟨q0, q1, q2, q3⟩, hsl⟩ := (HKW.out.ext0 hxk.out).at_ (i := j) (by have := HM.out; omega)
          obtain ⟨rfl, -, rfl⟩ : A7 = some ad ∧ m = KS.length ∧ c7 = cx := by simpa using e0
          have hcok : (KS[j]'(by have := HM.out; omega)).ok := HOKS.out _ (List.getElem_mem _)
          have HTL := Lib.hid (TL_at (torn := torn) (List.getElem?_eq_getElem (l := KS) (i := j) (by have := HM.out; omega)))
          obtain ⟨q, hq⟩ : ∃ q, q = KS[j]'(by have := HM.out; omega) := ⟨_, rfl⟩
          rw [← hq] at q0 q1 q2 q3 hsl hcok HTL
          rw [← HM.out] at HTL
          have HSTEP := Lib.hid (fold_take (F := D.safe) HTL.out)
          have HSM : Hid ((((TL torn KS).take j).foldl stepF D.safe).length = 64 ∧ ∀ l ∈ ((TL torn KS).take j).foldl stepF D.safe, l.length ≤ 1048576) := Lib.hid (fold_small HOK.out.s64 HOK.out.sl _ (fun c hc => by
            obtain ⟨i, hi⟩ := List.getElem?_of_mem (List.mem_of_mem_take hc)
            have hil := (List.getElem?_eq_some_iff.1 hi).1
            rw [TL_length] at hil
            have := TL_at (torn := torn) (List.getElem?_eq_getElem (l := KS) (i := i) hil)
            rw [hi] at this
            cases this
            split
            · exact tornC_ok (HOKS.out _ (List.getElem_mem _))
            · exact HOKS.out _ (List.getElem_mem _)))
          have HSL := Lib.hid hsl
          obtain ⟨y0, hx0⟩ : ∃ x : Int, x = q.file := ⟨_, rfl⟩
          obtain ⟨y1, hx1⟩ : ∃ x : Int, x = if q.cut = true then 0 else (q.at_ : Int) := ⟨_, rfl⟩
          obtain ⟨y2, hx2⟩ : ∃ x : Int, x = if q.cut = true then (q.at_ : Int) else -1 := ⟨_, rfl⟩
          rw [← hx0] at q0
          rw [← hx1] at q1
          rw [← hx2] at q2
          have HQ := Lib.hid (And.intro hx0 (And.intro hx1 hx2))
          have hcb : q.p.length ≤ cb := by obtain ⟨_, _, e, _, q, _⟩ := hsl; cases e; exact q
          have hcb2 : cb ≤ 9223372036854775807 := by obtain ⟨_, _, e, _, _, q, _⟩ := hsl; cases e; exact q
          clear e0 hsl hq hx0 hx1 hx2 HTL
          by_cases hjm : j + 1 = m
          · have HJM := Lib.hid hjm
            have hjb : (m : Int) - 1 = j := by omega
            clear hjm
            cases hcut : q.cut with
            | true =>
              have hy2 : 0 ≤ y2 := by rw [HQ.out.2.2, if_pos hcut]; omega
              have HCQ : Hid ((if j + 1 = m then tornC torn q else q) = q) := Lib.hid (by rw [if_pos HJM.out]; unfold tornC; rw [if_neg (fun h => by rw [hcut] at h; cases h.1)])
              clear hcut
              have HST2 : Hid (((TL torn KS).take (j + 1)).foldl stepF D.safe = stepF (((TL torn KS).take j).foldl stepF D.safe) q) := Lib.hid (by rw [HSTEP.out, HCQ.out])
              go_wp2_with fail
              refine (made_any _ (Zx w Z) _ _ (hrf.out.ext0 (x0 wr _)) HSM.out.1 HSM.out.2 q hcok y0 y1 y2 HQ.out.1 HQ.out.2.1 HQ.out.2.2 (.slice B q.p.length cb) (HSL.out.ext (x0 wr _) (fun _ _ a => a))).mono ?_
              rintro e w1 ⟨v', rfl, hr1, hx1⟩
              have HR1 : Hid (RF w1 (Zx w Z) v' (((TL torn KS).take (j + 1)).foldl stepF D.safe)) := Lib.hid (by
                rw [HST2.out]
                exact hr1.mono (fun k _ h => by
                  rcases h with h | h
                  · exact h
                  · exact .inr (by have := hx.out.size; simp at h; omega)))
              have HX1 := Lib.hid ((hx.out.trans0 (x0 wr _)).trans0 hx1)
              have HXK1 := Lib.hid ((hxk.out.trans0 (x0 wr _)).trans0 hx1)
              clear hr1 hx1 hrf HST2
              go_wp2_with fail
              go_roundw
              case rel => exact ⟨j + 1, by first | go_num | (congr 1; omega), by omega, HR1, HX1, HXK1⟩
              case measure => simp [intOf]; omega
            | false =>
              have hy2 : y2 = -1 := by rw [HQ.out.2.2, if_neg (by rw [hcut]; decide)]
              by_cases ht0 : torn < 0
              · have HCQ : Hid ((if j + 1 = m then tornC torn q else q) = q) := Lib.hid (by rw [if_pos HJM.out]; unfold tornC; rw [if_neg (fun h => by omega)])
                have hy3 : y2 < 0 := by omega
                clear hcut hy2
                have HST2 : Hid (((TL torn KS).take (j + 1)).foldl stepF D.safe = stepF (((TL torn KS).take j).foldl stepF D.safe) q) := Lib.hid (by rw [HSTEP.out, HCQ.out])
                go_wp2_with fail
                refine (made_any _ (Zx w Z) _ _ (hrf.out.ext0 (x0 wr _)) HSM.out.1 HSM.out.2 q hcok y0 y1 y2 HQ.out.1 HQ.out.2.1 HQ.out.2.2 (.slice B q.p.length cb) (HSL.out.ext (x0 wr _) (fun _ _ a => a))).mono ?_
                rintro e w1 ⟨v', rfl, hr1, hx1⟩
                have HR1 : Hid (RF w1 (Zx w Z) v' (((TL torn KS).take (j + 1)).foldl stepF D.safe)) := Lib.hid (by
                  rw [HST2.out]
                  exact hr1.mono (fun k _ h => by
                    rcases h with h | h
                    · exact h
                    · exact .inr (by have := hx.out.size; simp at h; omega)))
                have HX1 := Lib.hid ((hx.out.trans0 (x0 wr _)).trans0 hx1)
                have HXK1 := Lib.hid ((hxk.out.trans0 (x0 wr _)).trans0 hx1)
                clear hr1 hx1 hrf HST2
                go_wp2_with fail
                go_roundw
                case rel => exact ⟨j + 1, by first | go_num | (congr 1; omega), by omega, HR1, HX1, HXK1⟩
                case measure => simp [intOf]; omega
              · by_cases ht1 : torn < q.p.length
                · have HCQ : Hid ((if j + 1 = m then tornC torn q else q) = ⟨q.cut, q.file, q.at_, q.p.take torn.toNat⟩) := Lib.hid (by rw [if_pos HJM.out]; unfold tornC; rw [if_pos ⟨hcut, by omega, ht1⟩])
                  have hy3 : y2 < 0 := by omega
                  have HCOK2 : Hid (Chg.ok ⟨q.cut, q.file, q.at_, q.p.take torn.toNat⟩) := Lib.hid ⟨hcok.1, by have := hcok.2; simp only [List.length_take]; omega⟩
                  obtain ⟨A9, hA9, hcut9⟩ := cut_h (P := Try.prog) 22 5 1 Try.underlying22 infoU8 B q.p.length cb torn (by omega) (by omega)
                  have htl : (q.p.take torn.toNat).length = torn.toNat := by rw [List.length_take]; omega
                  have HSL9 : Hid (Sl wr (Zx w Z) (.slice A9 (q.p.take torn.toNat).length cb) (q.p.take torn.toNat)) := Lib.hid (by
                    obtain ⟨_, _, e, s1, s2, s3, s4, s5⟩ := HSL.out
                    cases e
                    refine ⟨A9, cb, rfl, ?_, by omega, s3, fun x hx => s4 x (List.mem_of_mem_take hx), fun ad' e => ?_⟩
                    · have := cut_row (lo := 0) (hi := torn.toNat) s1 hA9 (by rw [B8_length]; omega)
                      unfold B8 at this ⊢
                      rw [List.map_take]
                      simpa using this
                    · obtain ⟨ad0, e1, e2⟩ := cut_block (lo := 0) hA9 ad' e
                      rw [e2]
                      exact s5 ad0 e1)
                  obtain ⟨tl, htle⟩ : ∃ x, x = (q.p.take torn.toNat).length := ⟨_, rfl⟩
                  rw [← htl, ← htle] at hcut9
                  have HSL9 : Hid (Sl wr (Zx w Z) (.slice A9 tl cb) (q.p.take torn.toNat)) := Lib.hid (by rw [htle]; exact HSL9.out)
                  clear hcut hy2 hA9 htl htle
                  have HST2 : Hid (((TL torn KS).take (j + 1)).foldl stepF D.safe = stepF (((TL torn KS).take j).foldl stepF D.safe) ⟨q.cut, q.file, q.at_, q.p.take torn.toNat⟩) := Lib.hid (by rw [HSTEP.out, HCQ.out])
                  go_wp2_with fail
                  refine (made_any _ (Zx w Z) _ _ (hrf.out.ext0 (x0 wr _)) HSM.out.1 HSM.out.2 ⟨q.cut, q.file, q.at_, q.p.take torn.toNat⟩ HCOK2.out y0 y1 y2 HQ.out.1 HQ.out.2.1 HQ.out.2.2 (.slice A9 tl cb) (HSL9.out.ext (x0 wr _) (fun _ _ a => a))).mono ?_
                  rintro e w1 ⟨v', rfl, hr1, hx1⟩
                  have HR1 : Hid (RF w1 (Zx w Z) v' (((TL torn KS).take (j + 1)).foldl stepF D.safe)) := Lib.hid (by
                    rw [HST2.out]
                    exact hr1.mono (fun k _ h => by
                      rcases h with h | h
                      · exact h
                      · exact .inr (by have := hx.out.size; simp at h; omega)))
                  have HX1 := Lib.hid ((hx.out.trans0 (x0 wr _)).trans0 hx1)
                  have HXK1 := Lib.hid ((hxk.out.trans0 (x0 wr _)).trans0 hx1)
                  clear hr1 hx1 hrf HST2
                  go_wp2_with fail
                  go_roundw
                  case rel => exact ⟨j + 1, by first | go_num | (congr 1; omega), by omega, HR1, HX1, HXK1⟩
                  case measure => simp [intOf]; omega
                · have HCQ : Hid ((if j + 1 = m then tornC torn q else q) = q) := Lib.hid (by rw [if_pos HJM.out]; unfold tornC; rw [if_neg (fun h => by omega)])
                  have hy3 : y2 < 0 := by omega
                  clear hcut hy2
                  have HST2 : Hid (((TL torn KS).take (j + 1)).foldl stepF D.safe = stepF (((TL torn KS).take j).foldl stepF D.safe) q) := Lib.hid (by rw [HSTEP.out, HCQ.out])
                  go_wp2_with fail
                  refine (made_any _ (Zx w Z) _ _ (hrf.out.ext0 (x0 wr _)) HSM.out.1 HSM.out.2 q hcok y0 y1 y2 HQ.out.1 HQ.out.2.1 HQ.out.2.2 (.slice B q.p.length cb) (HSL.out.ext (x0 wr _) (fun _ _ a => a))).mono ?_
                  rintro e w1 ⟨v', rfl, hr1, hx1⟩
                  have HR1 : Hid (RF w1 (Zx w Z) v' (((TL torn KS).take (j + 1)).foldl stepF D.safe)) := Lib.hid (by
                    rw [HST2.out]
                    exact hr1.mono (fun k _ h => by
                      rcases h with h | h
                      · exact h
                      · exact .inr (by have := hx.out.size; simp at h; omega)))
                  have HX1 := Lib.hid ((hx.out.trans0 (x0 wr _)).trans0 hx1)
                  have HXK1 := Lib.hid ((hxk.out.trans0 (x0 wr _)).trans0 hx1)
                  clear hr1 hx1 hrf HST2
                  go_wp2_with fail
                  go_roundw
                  case rel => exact ⟨j + 1, by first | go_num | (congr 1; omega), by omega, HR1, HX1, HXK1⟩
                  case measure => simp [intOf]; omega
          · have hjb : ((j : Int) == (m : Int) - 1) = false := by simp; omega
            have HCQ : Hid ((if j + 1 = m then tornC torn q else q) = q) := Lib.hid (by rw [if_neg hjm])
            clear hjm
            have HST2 : Hid (((TL torn KS).take (j + 1)).foldl stepF D.safe = stepF (((TL torn KS).take j).foldl stepF D.safe) q) := Lib.hid (by rw [HSTEP.out, HCQ.out])
            go_wp2_with fail
            refine (made_any _ (Zx w Z) _ _ (hrf.out.ext0 (x0 wr _)) HSM.out.1 HSM.out.2 q hcok y0 y1 y2 HQ.out.1 HQ.out.2.1 HQ.out.2.2 (.slice B q.p.length cb) (HSL.out.ext (x0 wr _) (fun _ _ a => a))).mono ?_
            rintro e w1 ⟨v', rfl, hr1, hx1⟩
            have HR1 : Hid (RF w1 (Zx w Z) v' (((TL torn KS).take (j + 1)).foldl stepF D.safe)) := Lib.hid (by
              rw [HST2.out]
              exact hr1.mono (fun k _ h => by
                rcases h with h | h
                · exact h
                · exact .inr (by have := hx.out.size; simp at h; omega)))
            have HX1 := Lib.hid ((hx.out.trans0 (x0 wr _)).trans0 hx1)
            have HXK1 := Lib.hid ((hxk.out.trans0 (x0 wr _)).trans0 hx1)
            clear hr1 hx1 hrf HST2
            go_wp2_with fail
            go_roundw
            case rel => exact ⟨j + 1, by first | go_num | (congr 1; omega), by omega, HR1, HX1, HXK1⟩
            case measure => simp [intOf]; omega
        -- END2
    · have hlt : k < n := by omega
      obtain ⟨ad, cx, B, cb, e0, h1, h2, ⟨q0, q1, q2, q3⟩, hsl⟩ := (HW.out.ext0 hx.out).at_ (i := k) (by have := HN.out; omega)
      obtain ⟨rfl, _, rfl⟩ : A = some ad ∧ D.wait.length = D.wait.length ∧ c2 = cx := by simpa using e0
      have HKE := Lib.hid (keptL_succ (keep := keep) (List.getElem?_eq_getElem (l := D.wait) (i := k) (by have := HN.out; omega)))
      obtain ⟨q, hq⟩ : ∃ q, q = D.wait[k]'(by have := HN.out; omega) := ⟨_, rfl⟩
      rw [← hq] at q0 q1 q2 q3 hsl HKE
      have HSL := Lib.hid hsl
      obtain ⟨y0, hx0⟩ : ∃ x : Int, x = q.file := ⟨_, rfl⟩
      obtain ⟨y1, hx1⟩ : ∃ x : Int, x = if q.cut = true then 0 else (q.at_ : Int) := ⟨_, rfl⟩
      obtain ⟨y2, hx2⟩ : ∃ x : Int, x = if q.cut = true then (q.at_ : Int) else -1 := ⟨_, rfl⟩
      rw [← hx0] at q0
      rw [← hx1] at q1
      rw [← hx2] at q2
      have HQ : Hid (rch q (.slice B q.p.length cb) = [.int .i64 y0, .int .i64 y1, .int .i64 y2, .slice B q.p.length cb]) := Lib.hid (by rw [hx0, hx1, hx2]; rfl)
      have hb1 := bit_one keep k
      have hlk := keptL_le (keep := keep) (ch := D.wait) k
      obtain ⟨KS, hKS⟩ : ∃ x, x = keptL keep D.wait k := ⟨_, rfl⟩
      rw [← hKS] at hkr HKE hlk
      clear e0 hsl hq hx0 hx1 hx2 hKS
      cases hbit : bitK keep k with
      | true =>
        rw [hbit] at hb1 HKE
        clear hbit
        obtain ⟨pv, hpl, hown, hss⟩ := hkr.out
        have HOW := Lib.hid hown
        have HSS := Lib.hid hss
        have HPL := Lib.hid hpl
        have HBS := fun W => rch_slice y0 y1 y2 B q.p.length cb W
        clear hpl hown hss
        go_wp2_with (at_builtin; refine app rfl (.tmp 27) (.tmp 35) 89 rfl 109 _ 4 48 Try.underlying89 infoRch rfl (by decide) (by decide) _ _ KS.length (rchs KS pv) rfl (HOW.out.alloc _) (some ⟨wr.heap.size, 0, none⟩) 1 1 (rch q (.slice B q.p.length cb)) rfl rfl (by rw [HQ.out]; exact (Blk.new wr _ _).row) (rch_one HSL.out) (by omega) ?_; intro u w2 ho2 hx2; have HKR := Lib.hid (KR.app HZ.out hx.out.size HPL.out HOW.out.blk HSS.out HSL.out ho2 hx2); have HX2 : Hid (Ext None_ w w2) := Lib.hid ((hx.out.alloc _).trans hx2 (fun k hk e => absurd (HOW.out.blk k e) (Nat.not_le.2 hk))); clear ho2 hx2)
        go_roundw
        case rel => exact ⟨k + 1, by go_num, by omega, Lib.hid (by rw [HKE.out, if_pos rfl]; exact HKR.out), HX2⟩
        case measure => simp [intOf]; omega
      | false =>
        rw [hbit] at hb1 HKE
        clear hbit
        go_wp2_with fail
        go_roundw
        case rel => exact ⟨k + 1, by go_num, by omega, Lib.hid (by rw [HKE.out, if_neg (by decide)]; exact hkr.out), hx⟩
        case measure => simp [intOf]; omega
end Go.Proofs.Ytakcdmmniaipeaa
