/- The document's net, walked: number, Twice. -/
import Derived.Test.YthjabbheobpoeaaRa
set_option linter.unusedVariables false
set_option linter.unusedSimpArgs false
namespace Go.Proofs.Ythjabbheobpoeaa
open Go.RowKit B
theorem tmod_casesR (n d : Int) (hd : 0 < d) : -d < n.tmod d ∧ n.tmod d < d ∧ n % d = if n.tmod d < 0 then n.tmod d + d else n.tmod d := by
  have h1 := Int.tmod_lt_of_pos n hd
  have h2 : -d < n.tmod d := Int.lt_tmod_of_pos n hd
  refine ⟨h2, h1, ?_⟩
  have he : n % d = (n.tmod d) % d := by
    rw [← Int.emod_emod_of_dvd n (Int.dvd_refl d)]
    have := Int.mul_tdiv_add_tmod n d
    conv => lhs; rw [← this]
    simp
  rw [he]
  split
  · rw [← Int.add_emod_right, Int.emod_eq_of_lt (by omega) (by omega)]
  · rw [Int.emod_eq_of_lt (by omega) h1]
set_option maxRecDepth 100000 in
set_option maxHeartbeats 4000000 in
theorem rnumber_any (g : Nat) (N : NS) (M C : Nat → Prop) (a b k : Int) (hk : I64 k) (w : World) (h : RNAt w M C g N) : Calls Try.prog 38 #[.pointer (some ⟨g, 0, none⟩), .int .i64 a, .int .i64 b, .int .i64 k] w fun e w' => e = .returned (.int .i64 (atN N a b k)) ∧ w = w' := by
  have HL := Lib.hid (rlink_any g N M C a b w h)
  cases ht : thereB N a b with
  | false =>
    have HA : Hid (atN N a b k = -1) := Lib.hid (by unfold atN; rw [if_pos (.inl (by rw [(h.wf.1 a b ht).1]; rfl))])
    rw [ht] at HL
    rw [HA.out]
    clear h ht
    go_enter Try.func38, Try.ntmps38
    go_wp2_with fail
    refine HL.out.mono ?_
    rintro e w1 ⟨rfl, rfl⟩
    go_wp2_with fail
    go_ret
    exact ⟨rfl, rfl⟩
  | true =>
    rw [ht] at HL
    obtain ⟨x, y, rfl, rfl, hx, hy⟩ := there_nat h.nn.2 ht
    obtain ⟨A, c, c1, c2, _⟩ := h.asks hx hy
    have hcut := h.wf.2 x y
    have hl64 := h.len x y
    obtain ⟨L, hL⟩ : ∃ L, L = (N.wait x y).length := ⟨_, rfl⟩
    obtain ⟨cu, hcu⟩ : ∃ cu : Bool, cu = decide (N.cut x y ≠ 0) := ⟨_, rfl⟩
    have HA : Hid (atN N x y k = if cu = true ∨ L = 0 then -1 else k % (L : Int)) := Lib.hid (by
      unfold atN
      rw [← hL]
      by_cases h1 : N.cut x y = 0
      · have : cu = false := by rw [hcu]; simp [h1]
        rw [this]
        by_cases h2 : L = 0
        · rw [if_pos (.inl h2), if_pos (.inr h2)]
        · rw [if_neg (by omega), if_neg (by simp [h2])]
      · have : cu = true := by rw [hcu]; simp [h1]
        rw [if_pos (.inr (by omega)), if_pos (.inl this)])
    rw [← hL] at c1 hl64
    rw [← hcu] at c2
    rw [HA.out]
    clear h ht hL hcu hcut
    cases cu with
    | true =>
      rw [if_pos (.inl rfl)]
      go_enter Try.func38, Try.ntmps38
      go_wp2_with fail
      refine HL.out.mono ?_
      rintro e w1 ⟨rfl, rfl⟩
      go_wp2_with fail
      go_ret
      exact ⟨rfl, rfl⟩
    | false =>
      by_cases h0 : L = 0
      · rw [if_pos (.inr h0)]
        subst h0
        go_enter Try.func38, Try.ntmps38
        go_wp2_with fail
        refine HL.out.mono ?_
        rintro e w1 ⟨rfl, rfl⟩
        go_wp2_with fail
        go_ret
        exact ⟨rfl, rfl⟩
      · rw [if_neg (by simp [h0])]
        obtain ⟨t1, t2, t3⟩ := tmod_casesR k L (by omega)
        have hb0 : ((L : Int) == 0) = false := by simp [h0]
        by_cases htm : k.tmod (L : Int) < 0
        · rw [if_pos htm] at t3
          have HT3 := Lib.hid t3
          clear t3
          go_enter Try.func38, Try.ntmps38
          go_wp2_with fail
          refine HL.out.mono ?_
          rintro e w1 ⟨rfl, rfl⟩
          go_wp2_with fail
          go_ret
          exact ⟨by rw [HT3.out]; rfl, rfl⟩
        · rw [if_neg htm] at t3
          have HT3 := Lib.hid t3
          clear t3
          go_enter Try.func38, Try.ntmps38
          go_wp2_with fail
          refine HL.out.mono ?_
          rintro e w1 ⟨rfl, rfl⟩
          go_wp2_with fail
          go_ret
          exact ⟨by rw [HT3.out]; rfl, rfl⟩
theorem msg_rangeC {w : World} {C M : Nat → Prop} {A : Option Addr} {n c : Nat} {l : List Msg} (h : QAt w C M (.slice A n c) l) {i : Nat} {q : Msg} (hq : l[i]? = some q) : ∃ (g : Nat) (p : Option Addr × Nat), A = some ⟨g, 0, none⟩ ∧ w.rangeAt g (i * 10) (msgC q p.1 p.2).toList ∧ q.es.length ≤ 5864062014805 ∧ Row w p.1 (entV q.es) ∧ ∀ ad, p.1 = some ad → 0 < q.es.length → C ad.block := by
  obtain ⟨pv, h1, h2, h3⟩ := h
  have hi := (List.getElem?_eq_some_iff.1 hq).1
  obtain ⟨p, hp⟩ : ∃ p, pv[i]? = some p := ⟨_, List.getElem?_eq_getElem (by omega)⟩
  obtain ⟨a1, a2, a3⟩ := h3 i q p hq hp
  rcases h2.own.2 with ⟨_, hn⟩ | ⟨g, cap, cur, hv, _, hg, hnc, _, hcs, htake⟩
  · omega
  · injection hv with hv _ _
    refine ⟨g, p, hv, fun j v hj => ?_, a1, a2, a3⟩
    have hjl : j < 10 := by have := (List.getElem?_eq_some_iff.1 hj).1; rwa [msgC_len] at this
    have hz : (l.zip pv)[i]? = some (q, p) := by rw [List.getElem?_zip_eq_some]; exact ⟨hq, hp⟩
    have hf := flat_ten (fun x : Msg × (Option Addr × Nat) => (msgC x.1 x.2.1 x.2.2).toList) (fun x => msgC_len _ _ _) (l.zip pv) i j (q, p) hz hjl
    rw [cell_of_row w g (i * 10 + j) cur _ (0, 0) hg]
    have ht := congrArg (fun z : List Value => z[i * 10 + j]?) htake
    simp only [List.getElem?_take] at ht
    rw [if_pos (by omega)] at ht
    have : (msgsV l pv)[i * 10 + j]? = some v := hf.trans hj
    rw [this] at ht
    simpa using ht
/-- What the document's net tells of a message. -/
def RwP (C : Nat → Prop) (q : Msg) (ok : Bool) (e : Ending) (w' : World) : Prop := ∃ A c, e = .returned (.tuple #[.agg (msgC q A c), .bool ok]) ∧ Row w' A (entV q.es) ∧ q.es.length ≤ 5864062014805 ∧ ∀ ad, A = some ad → 0 < q.es.length → C ad.block
set_option maxRecDepth 100000 in
set_option maxHeartbeats 8000000 in
theorem rtwice_any (g : Nat) (N : NS) (M C : Nat → Prop) (a b k : Int) (hk : I64 k) (w : World) (h : RNAt w M C g N) : Calls Try.prog 30 #[.pointer (some ⟨g, 0, none⟩), .int .i64 a, .int .i64 b, .int .i64 k] w fun e w' => RwP C (twiceN N a b k).1 (twiceN N a b k).2 e w' ∧ Ext None_ w w' := by
  have HAT := Lib.hid (rnumber_any g N M C a b k hk _ (h.ext0 (x0 w (.cells (msgC msg0 none 0) 28))))
  have HZ := Lib.hid (Blk.new w (msgC msg0 none 0) 28)
  by_cases hat : atN N a b k < 0
  · have HT : Hid (twiceN N a b k = (msg0, false)) := Lib.hid (by unfold twiceN; rw [if_pos hat])
    obtain ⟨z, hz⟩ : ∃ z, z = atN N a b k := ⟨_, rfl⟩
    rw [← hz] at HAT hat
    clear h hz
    go_enter Try.func30, Try.ntmps30
    go_wp2_with (first
      | (go_at_call 38; refine HAT.out.mono ?_; rintro e w1 ⟨rfl, rfl⟩; clear HAT)
      | (refine wpList_store_blk rfl 28 (.tmp 8) (.tmp 18) rfl w.heap.size (msgC msg0 none 0) rfl rfl 28 (msgC msg0 none 0) HZ.out msgSize rfl rfl ?_; intro w2 hb2 hx2; have HB2 := Lib.hid hb2; have HX2 := Lib.hid hx2; clear hb2 hx2))
    refine bodyPost_ret (results2_blk rfl _ _ w.heap.size 28 (msgC msg0 none 0) _ rfl rfl HB2.out Try.underlying28 rfl msgSize) rfl ?_
    rw [HT.out]
    exact ⟨⟨none, 0, rfl, Row.nil _ _, by simp, fun _ e => by cases e⟩, (x0 w _).trans HX2.out (fun q hq e => by have e : q = w.heap.size := e; omega)⟩
  · obtain ⟨i, hi, hil⟩ := atN_lt N a b k hat
    obtain ⟨q, hq⟩ : ∃ q, (N.wait a b)[i]? = some q := ⟨_, List.getElem?_eq_getElem hil⟩
    have HT : Hid (twiceN N a b k = (q, true)) := Lib.hid (by unfold twiceN; rw [if_neg hat, hi, Int.toNat_natCast, List.getD_eq_getElem?_getD, hq]; rfl)
    have hth : thereB N a b = true := by
      cases ht : thereB N a b with
      | true => rfl
      | false => rw [(h.wf.1 a b ht).1] at hil; simp at hil
    obtain ⟨x, y, rfl, rfl, hx, hy⟩ := there_nat h.nn.2 hth
    obtain ⟨A, c, c1, c2, hqa⟩ := h.asks hx hy
    obtain ⟨gq, p, rfl, hrg, hesl, hrow, hCq⟩ := msg_rangeC hqa hq
    have c1 := (x0 w (.cells (msgC msg0 none 0) 28)).cell c1 (fun a => a)
    have HRG := Lib.hid (range_ext hrg (x0 w (.cells (msgC msg0 none 0) 28)) (fun a => a))
    have HROW := Lib.hid hrow
    obtain ⟨L, hL⟩ : ∃ L, L = (N.wait x y).length := ⟨_, rfl⟩
    rw [← hL] at c1 hil
    rw [hi] at HAT
    clear h hat hi hL hqa hrg hrow c2 hth hq
    go_enter Try.func30, Try.ntmps30
    go_wp2_with (first
      | (go_at_call 38; refine HAT.out.mono ?_; rintro e w1 ⟨rfl, rfl⟩; clear HAT)
      | (refine wpList_load_mid rfl 28 (.tmp 28) rfl gq (i * 10) rfl (msgC q p.1 p.2).toList _ HRG.out Try.underlying28 rfl (by kernel_rfl) ?_)
      | (refine wpList_store_blk rfl 28 (.tmp 8) (.tmp 29) rfl w.heap.size (msgC q p.1 p.2) rfl rfl 28 (msgC msg0 none 0) HZ.out msgSize rfl rfl ?_; intro w2 hb2 hx2; have HB2 := Lib.hid hb2; have HX2 := Lib.hid hx2; clear hb2 hx2))
    refine bodyPost_ret (results2_blk rfl _ _ w.heap.size 28 (msgC q p.1 p.2) _ rfl rfl HB2.out Try.underlying28 rfl msgSize) rfl ?_
    rw [HT.out]
    have hX : Ext None_ w w2 := (x0 w _).trans HX2.out (fun q hq e => by have e : q = w.heap.size := e; omega)
    exact ⟨⟨p.1, p.2, rfl, HROW.out.ext0 hX, hesl, hCq⟩, hX⟩
end Go.Proofs.Ythjabbheobpoeaa
