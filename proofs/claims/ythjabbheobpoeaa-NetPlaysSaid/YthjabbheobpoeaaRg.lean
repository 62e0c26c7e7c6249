/- The document's net, walked: Links, Clear, Deliver. -/
import Derived.Test.YthjabbheobpoeaaRf
set_option linter.unusedVariables false
set_option linter.unusedSimpArgs false
namespace Go.Proofs.Ythjabbheobpoeaa
open Go.RowKit B
set_option maxRecDepth 100000 in
set_option maxHeartbeats 16000000 in
theorem rlinks_any (g : Nat) (N : NS) (M C : Nat → Prop) (w : World) (h : RNAt w M C g N) : Calls Try.prog 36 #[.pointer (some ⟨g, 0, none⟩)] w fun e w' => ∃ A c, e = .returned (.slice A (linksN N).length c) ∧ LinkO w w' (.slice A (linksN N).length c) (linksN N) ∧ Ext None_ w w' := by
  have hnn := h.nn
  have hwf2 := h.wf.2
  obtain ⟨n, hn⟩ : ∃ n : Nat, N.n = n := ⟨N.n.toNat, by omega⟩
  have HL : Hid (linksN N = tabL N n n) := Lib.hid (by unfold linksN; rw [hn]; rfl)
  have c0w := h.num
  rw [hn] at c0w
  have HNU := Lib.hid (fun (W : World) (hx : Ext None_ w W) (a b : Int) => rnumber_any g N M C a b 0 (by decide) W (h.ext0 hx))
  have HOKL : Hid (∀ a b : Int, (0 ≤ atN N a b 0) ↔ okL N a b = true) := Lib.hid (fun a b => by
    unfold atN okL
    have hc := hwf2 a b
    by_cases h1 : (N.wait a b).length = 0 ∨ 0 < N.cut a b
    · rw [if_pos h1]
      simp
      intro h2
      rcases h1 with h1 | h1 <;> omega
    · rw [if_neg h1]
      have : 0 < (N.wait a b).length ∧ N.cut a b = 0 := by omega
      simp [this])
  have hn7 : n ≤ 7 := by omega
  clear h hn hnn hwf2
  go_enter Try.func36, Try.ntmps36
  go_wp2_with fail
  go_loopw [3, 4] (fun v3 v4 wr => ∃ i : Nat, v4 = .int .i64 i ∧ i ≤ n ∧ Hid (LinkO w wr v3 (tabL N n i)) ∧ Hid (Ext None_ w wr)) (fun _ v4 _ => n - (intOf v4).toNat)
  case atStart => exact ⟨0, rfl, by omega, Lib.hid (Own.nil _ _ _ _), Lib.hid (Ext.refl _ _)⟩
  case round =>
    obtain ⟨i, rfl, hi, ho, hx⟩ := hrel
    have c0 := hx.out.cell c0w (fun a => a)
    by_cases hlt : i < n
    · go_wp2_with fail
      clear c0
      go_loopw [3, 5] (fun v3 v5 wr => ∃ j : Nat, v5 = .int .i64 j ∧ j ≤ n ∧ Hid (LinkO w wr v3 (tabL N n i ++ rowL N i j)) ∧ Hid (Ext None_ w wr)) (fun _ v5 _ => n - (intOf v5).toNat)
      case atStart => exact ⟨0, rfl, by omega, Lib.hid (by simpa [rowL] using ho.out), hx⟩
      case round =>
        clear ho hx
        obtain ⟨j, rfl, hj, ho, hx⟩ := hrel
        have c0 := hx.out.cell c0w (fun a => a)
        by_cases hlj : j < n
        · go_wp2_with fail
          refine (HNU.out wr hx.out (i : Int) (j : Int)).mono ?_
          rintro e w9 ⟨rfl, rfl⟩
          obtain ⟨z, hz⟩ : ∃ z, z = atN N i j 0 := ⟨_, rfl⟩
          have HZ := HOKL.out i j
          rw [← hz] at HZ ⊢
          clear hz
          by_cases h0 : 0 ≤ z
          · have HOK : Hid (okL N i j = true) := Lib.hid (HZ.1 h0)
            clear HZ
            have HB : (tabL N n i ++ rowL N i j).length + 1 ≤ 1000000 := by
              have h1 := tabL_len N n i
              have h2 := rowL_len N i j
              have h3 := Nat.mul_le_mul hi hn7
              rw [List.length_append]
              omega
            go_wp2_with (refine wpList_appL rfl (.tmp 27) (.tmp 31) rfl (fun k => w.heap.size ≤ k) u3 _ _ rfl (Own.ext0 ho.out (x0 wr _)) wr.heap.size i j rfl (Blk.new wr _ _) HB ?_; intro v' w' h1 h2; have HO9 := Lib.hid (link_add ho.out hx.out h1 h2 HOK.out); clear h1 h2)
            go_roundw
            case rel => exact ⟨j + 1, by go_num, by omega, Lib.hid HO9.out.1, Lib.hid HO9.out.2⟩
            case measure => simp [intOf]; omega
          · have HOK : Hid (okL N i j = false) := Lib.hid (by
              cases hb : okL N i j with
              | false => rfl
              | true => exact absurd (HZ.2 hb) h0)
            clear HZ
            go_wp2_with fail
            go_roundw
            case rel => exact ⟨j + 1, by go_num, by omega, Lib.hid (by rw [rowL_no _ _ _ HOK.out]; exact ho.out), hx⟩
            case measure => simp [intOf]; omega
        · obtain rfl : j = n := by omega
          go_wp2_with fail
          go_roundw
          case rel => exact ⟨i + 1, by go_num, by omega, Lib.hid (by rw [tabL_succ]; exact ho.out), hx⟩
          case measure => simp [intOf]; omega
    · obtain rfl : i = n := by omega
      have hsl : ∃ A c, u3 = .slice A (tabL N i i).length c := by
        obtain ⟨A, c, e, _⟩ := Own.slice ho.out
        exact ⟨A, c, e⟩
      obtain ⟨A, c, rfl⟩ := hsl
      go_wp2_with fail
      go_ret
      rw [HL.out]
      exact ⟨A, c, rfl, ho.out, hx.out⟩
/-! ### Clear -/
/-- What waits on links from the first k nodes to b is lost. -/
def clearK (N : NS) (b : Int) (k : Nat) : NS := { N with wait := fun x y => if y = b ∧ 0 ≤ x ∧ x < (k : Int) then [] else N.wait x y }
def clearN (N : NS) (b : Int) : NS := clearK N b N.n.toNat
theorem clearK_zero (N : NS) (b : Int) : clearK N b 0 = N := by
  unfold clearK
  have : (fun x y : Int => if y = b ∧ 0 ≤ x ∧ x < ((0 : Nat) : Int) then ([] : List Msg) else N.wait x y) = N.wait := by
    funext x y
    rw [if_neg (by omega)]
  rw [this]
theorem clearK_succ (N : NS) (b : Int) (k : Nat) : clearK N b (k + 1) = { clearK N b k with wait := updW (clearK N b k).wait k b [] } := by
  unfold clearK updW
  congr 1
  funext x y
  by_cases h1 : x = k ∧ y = b
  · rw [if_pos (by omega), if_pos h1]
  · rw [if_neg h1]
    by_cases h2 : y = b ∧ 0 ≤ x ∧ x < (k : Int)
    · rw [if_pos (by omega)]
      exact (if_pos h2).symm
    · rw [if_neg (by omega)]
      exact (if_neg h2).symm
theorem clearK_same {N : NS} (h : N.wf) (b : Int) (k : Nat) (ht : thereB N k b = false) : clearK N b (k + 1) = clearK N b k := by
  unfold clearK
  congr 1
  funext x y
  by_cases h1 : x = k ∧ y = b
  · obtain ⟨rfl, rfl⟩ := h1
    rw [if_pos (by omega), if_neg (by omega)]
    exact (h.1 _ _ ht).1.symm
  · by_cases h2 : y = b ∧ 0 ≤ x ∧ x < (k : Int)
    · rw [if_pos (by omega), if_pos h2]
    · rw [if_neg (by omega), if_neg h2]
theorem RLeftN.after {w w1 w2 : World} {M C M1 C1 : Nat → Prop} {g : Nat} {N : NS} (h : RLeftN w1 w2 M1 C1 g N) (hx : Ext M w w1) (hm : ∀ k, M1 k → M k ∨ w.heap.size ≤ k) (hc : ∀ k, C1 k → C k ∨ w.heap.size ≤ k) : RLeftN w w2 M C g N := by
  obtain ⟨M', C', h1, h2, h3, h4⟩ := h
  have hs := hx.size
  refine ⟨M', C', h1, hx.trans h2 (fun k hk hk2 => ?_), fun k hk => ?_, fun k hk => ?_⟩
  · rcases hm k hk2 with h | h
    · exact h
    · omega
  · rcases h3 k hk with h | h
    · exact hm k h
    · exact .inr (by omega)
  · rcases h4 k hk with h | h
    · exact hc k h
    · exact .inr (by omega)
set_option maxRecDepth 100000 in
set_option maxHeartbeats 8000000 in
theorem rclear_any (g : Nat) (N : NS) (M C : Nat → Prop) (b : Int) (w : World) (h : RNAt w M C g N) : Calls Try.prog 34 #[.pointer (some ⟨g, 0, none⟩), .int .i64 b] w fun e w' => e = .returned (.tuple #[]) ∧ RLeftN w w' M C g (clearN N b) := by
  have hnn := h.nn
  obtain ⟨n, hn⟩ : ∃ n : Nat, N.n = n := ⟨N.n.toNat, by omega⟩
  have HE : Hid (clearN N b = clearK N b n) := Lib.hid (by unfold clearN; rw [hn]; rfl)
  have hn7 : n ≤ 7 := by omega
  have HH : Hid (RLeftN w w M C g (clearK N b 0)) := Lib.hid (by rw [clearK_zero]; exact RLeftN.same h (Ext.refl _ _))
  have HN := Lib.hid hn
  have HWF := Lib.hid h.wf
  clear h hn hnn
  go_enter Try.func34, Try.ntmps34
  go_wp2_with fail
  go_loopw [4] (fun v4 wr => ∃ k : Nat, v4 = .int .i64 k ∧ k ≤ n ∧ Hid (RLeftN w wr M C g (clearK N b k))) (fun v4 _ => n - (intOf v4).toNat)
  case atStart => exact ⟨0, rfl, by omega, HH⟩
  case round =>
    clear HH
    obtain ⟨k, rfl, hk, hl⟩ := hrel
    obtain ⟨M1, C1, a1, a2, a3, a4⟩ := id hl.out
    have c0 := a1.num
    rw [show (clearK N b k).n = n from HN.out] at c0
    have HA1 := Lib.hid a1
    have HA := Lib.hid (And.intro a2 (And.intro a3 a4))
    clear a1 a2 a3 a4
    by_cases hlt : k < n
    · have hth : thereB (clearK N b k) k b = thereB N k b := rfl
      cases ht : thereB N k b with
      | false =>
        have HL := Lib.hid (rlink_any g _ M1 C1 (k : Int) b wr HA1.out)
        rw [hth, ht] at HL
        have HS := Lib.hid (clearK_same HWF.out b k ht)
        clear hth ht
        go_wp2_with fail
        refine HL.out.mono ?_
        rintro e w1 ⟨rfl, rfl⟩
        go_wp2_with fail
        go_roundw
        case rel => exact ⟨k + 1, by go_num, by omega, Lib.hid (by rw [HS.out]; exact hl.out)⟩
        case measure => simp [intOf]; omega
      | true =>
        have HL := Lib.hid (rlink_any g _ M1 C1 (k : Int) b wr HA1.out)
        rw [hth, ht] at HL
        obtain ⟨x, y, hxk, rfl, hx7, hy⟩ := there_nat (by rw [HN.out]; omega) ht
        obtain rfl : x = k := by omega
        obtain ⟨A, c, c1, _, hqa⟩ := HA1.out.asks hx7 hy
        obtain ⟨s1, s2, s3⟩ := HA1.out.put hx7 hy (by rw [hth]; exact ht) c1 (Ext.refl _ wr) (QAt.nil _ C1 _) (fun _ h => h) (fun _ h => .inl h) HA1.out.clt (fun k hk e => by simp [Value.ownBlock] at e) (by simp)
        have HS : Hid (RLeftN w (wr.setCell ⟨g, 1 + x * 7 + y, none⟩ (.slice none 0 0)) M C g (clearK N y (x + 1))) := Lib.hid (by rw [clearK_succ]; exact s1.after HA.out.1 HA.out.2.1 HA.out.2.2)
        clear hth ht hqa s1 hxk
        go_wp2_with fail
        refine HL.out.mono ?_
        rintro e w1 ⟨rfl, rfl⟩
        go_wp2_with fail
        go_roundw
        case rel => exact ⟨x + 1, by go_num, by omega, HS⟩
        case measure => simp [intOf]; omega
    · obtain rfl : k = n := by omega
      go_wp2_with fail
      go_end0
      rw [HE.out]
      exact ⟨rfl, hl.out⟩
end Go.Proofs.Ythjabbheobpoeaa
