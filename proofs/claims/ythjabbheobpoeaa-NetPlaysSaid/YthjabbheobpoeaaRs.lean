/- draylaw26.call whole; NetPlays, walked. Written by gen_rs.py. -/
import Derived.Test.YthjabbheobpoeaaRr
set_option linter.unusedVariables false
set_option linter.unusedSimpArgs false
namespace Go.Proofs.Ythjabbheobpoeaa
open Go.RowKit B
theorem askSzM : (Try.prog.info? 47).map (·.size) = some 5 := by kernel_rfl
theorem TN.less {K : Nat → Prop} {g h : Nat} {N : NS} {m m1 : Nat} {w : World} (t : TN K g h N N m w) (hm : m ≤ m1) : TN K g h N N m1 w := by
  obtain ⟨M, C, M', C', tx⟩ := t
  obtain ⟨M1, C1, h1⟩ := tx.mono hm
  exact ⟨_, _, _, _, h1⟩
theorem TN.ext0 {K : Nat → Prop} {g h : Nat} {N : NS} {m : Nat} {w w1 : World} (t : TN K g h N N m w) (hx : Ext None_ w w1) : TN K g h N N m w1 := by
  obtain ⟨M, C, M', C', tx⟩ := t
  exact ⟨_, _, _, _, tx.ext0 hx⟩
/-- What a call of any kind leaves. -/
def CallO (n0 g h m : Nat) (W : World) (e : Ending) (w' : World) : Prop := e = .returned (.bool true) ∧ (∃ N' m', m' ≤ m + 1353245080303 ∧ TN (fun k => k < n0) g h N' N' m' w') ∧ Ext (fun k => ¬ k < n0) W w'
theorem argR_of {w0 W : World} {l : List MsgX} {ad : Addr} (hel : ElsAt 10 (fun q : MsgX => (msgC q.1 q.2.1 q.2.2).toList) (MsgX.ok w0) w0 (some ad) l) (hl : 0 < l.length) (h0 : Ext None_ w0 W) : ArgR W (fun k => ¬ k < w0.heap.size) ad (l.map (·.1)) (l.map (·.2)) := by
  have hone : ∀ (i : Nat) (q : Msg) (p : Option Addr × Nat), (l.map (·.1))[i]? = some q → (l.map (·.2))[i]? = some p → (∀ j v, (msgC q p.1 p.2).toList[j]? = some v → w0.cell? ((ad.add (i * 10)).add j) = some v) ∧ Row w0 p.1 (entV q.es) ∧ q.es.length ≤ 5864062014805 := fun i q p hq hp => by
    rw [List.getElem?_map] at hq hp
    obtain ⟨x, hx, rfl⟩ := Option.map_eq_some_iff.1 hq
    rw [hx] at hp
    simp only [Option.map_some, Option.some.injEq] at hp
    subst hp
    obtain ⟨ad', e, h1, h2⟩ := hel i x hx
    injection e with e
    subst e
    exact ⟨h1, h2.1, h2.2.1⟩
  refine ⟨by simp, fun i q p hq hp j v hj => h0.cell ((hone i q p hq hp).1 j v hj) (fun a => a), fun i q p hq hp => ?_, fun hk => hk ?_⟩
  · obtain ⟨h1, h2, h3⟩ := hone i q p hq hp
    exact ⟨h3, h2.ext0 h0, fun ad' e hpos hk => hk (h2.lt (by rw [entV_length]; omega) ad' e)⟩
  · obtain ⟨q, hq⟩ : ∃ q, (l.map (·.1))[0]? = some q := ⟨_, List.getElem?_eq_getElem (by simpa using hl)⟩
    obtain ⟨p, hp⟩ : ∃ p, (l.map (·.2))[0]? = some p := ⟨_, List.getElem?_eq_getElem (by simpa using hl)⟩
    have := World.block_lt_of_cell? w0 _ ((hone 0 q p hq hp).1 0 _ rfl)
    rwa [add_block, add_block] at this
theorem callN_any {g h : Nat} {N : NS} {m : Nat} (w0 W : World) (x : AskX) (hx : x.ok w0) (hm : m + 1353245080303 < maxLen) (t : TN (fun k => k < w0.heap.size) g h N N m W) (h0 : Ext None_ w0 W) : Calls Try.prog 19 #[.pointer (some ⟨g, 0, none⟩), .pointer (some ⟨h, 0, none⟩), .agg (askC x.k x.a x.b x.n x.A x.l.length x.c)] W (CallO w0.heap.size g h m W) := by
  obtain ⟨k, a, b, n, l, A, c⟩ := x
  obtain ⟨_, ha, hb, hn, hel, hll⟩ := hx
  simp only at ha hb hn hel hll ⊢
  have fin : ∀ {N' : NS} {m' : Nat} {e : Ending} {w' : World}, m' ≤ m + 1353245080303 → (e = .returned (.bool true) ∧ TN (fun k => k < w0.heap.size) g h N' N' m' w' ∧ Ext (fun k => ¬ k < w0.heap.size) W w') → CallO w0.heap.size g h m W e w' := fun hm h => ⟨h.1, ⟨_, _, hm, h.2.1⟩, h.2.2⟩
  by_cases k1 : k = 1
  · subst k1
    by_cases hz : l.length = 0
    · rw [hz]
      exact (call1e a b n A c W t).mono fun e w' h => fin (by omega) h
    · obtain ⟨x0, hx0⟩ : ∃ x, l[0]? = some x := ⟨_, List.getElem?_eq_getElem (by omega)⟩
      obtain ⟨ad, rfl, _⟩ := hel 0 x0 hx0
      have hc := call1 (K := fun k => k < w0.heap.size) (g := g) (h := h) (N := N) (m := m) a b n ad c (l.map (·.1)) (l.map (·.2)) (by simpa using (by omega : 0 < l.length)) (by simpa using hll) (by rw [List.length_map]; omega) W (argR_of hel (by omega) h0) (fun q hq => by
        obtain ⟨x, hx, rfl⟩ := List.mem_map.1 hq
        obtain ⟨i, hi⟩ := List.getElem?_of_mem hx
        obtain ⟨_, _, _, h2⟩ := hel i x hi
        exact ⟨h2.2.2.1, h2.2.2.2⟩) t
      rw [List.length_map] at hc
      exact hc.mono fun e w' h => fin (by omega) h
  · by_cases k2 : k = 2
    · subst k2; exact (call2 (by omega) a b n ha hb hn A l.length c W t).mono fun e w' h => fin (by omega) h
    · by_cases k3 : k = 3
      · subst k3; exact (call3 a b n ha hb hn A l.length c W t).mono fun e w' h => fin (by omega) h
      · by_cases k4 : k = 4
        · subst k4; exact (call4 (by omega) a b n ha hb hn A l.length c W t).mono fun e w' h => fin (by omega) h
        · by_cases k5 : k = 5
          · subst k5; exact (call5 (by omega) a b n ha hb hn A l.length c W t).mono fun e w' h => fin (by omega) h
          · by_cases k6 : k = 6
            · subst k6; exact (call6 (by omega) a b n ha hb hn A l.length c W t).mono fun e w' h => fin (by omega) h
            · by_cases k7 : k = 7
              · subst k7; exact (call7 a b n ha hb hn A l.length c W t).mono fun e w' h => fin (by omega) h
              · exact (call0 k ⟨k1, k2, k3, k4, k5, k6, k7⟩ a b n ha hb hn A l.length c W t).mono fun e w' h => fin (by omega) h
theorem tn_new {w w1 w2 : World} {M : Nat → Prop} {g h : Nat} {N : NS} (hd : NetAt w1 M (fun _ => False) g N 0) (hM : ∀ k, M k → w.heap.size ≤ k) (x1 : Ext None_ w w1) (hr : RNAt w2 (fun k => k = h) None_ h N) (hg : w1.heap.size ≤ h) (x2 : Ext None_ w1 w2) : TN (fun k => k < w.heap.size) g h N N 0 w2 := by
  have s1 := x1.size
  have s2 := x2.size
  refine ⟨M, fun _ => False, fun k => k = h, None_, hd.ext0 x2, hr, fun k hk hk2 => ?_, fun k hk => ⟨fun hk2 => ?_, fun hk2 => ?_⟩, fun k hk => by have hk : k < w.heap.size := hk; omega⟩
  · rcases hk with hk | hk
    · have := hd.mlt k hk
      rcases hk2 with e | e
      · have e : k = h := e
        omega
      · exact e
    · exact hk
  · have hk : k < w.heap.size := hk
    rcases hk2 with e | e
    · have := hM k e; omega
    · exact e
  · have hk : k < w.heap.size := hk
    rcases hk2 with e | e
    · have e : k = h := e
      omega
    · exact e
set_option maxRecDepth 100000 in
set_option maxHeartbeats 16000000 in
theorem NetPlays_any (n : Int) (hn : I64 n) (A0 : Option Addr) (cap : Nat) (l : List AskX) (w : World) (hl : ElsAt 5 AskX.cells (AskX.ok w) w A0 l) (hlen : l.length ≤ 140737488351232) : Calls Try.prog 6 #[.int .i64 n, .slice A0 l.length cap] w fun e w' => e = .returned (.bool true) ∧ Ext None_ w w' := by
  have HL := Lib.hid hl
  clear hl
  by_cases hb : n < 2 ∨ 7 < n
  · go_enter Try.func6, Try.ntmps6
    go_wp2_with fail
    refine (New_bad n w hb).mono ?_
    rintro e w1 ⟨rfl, rfl⟩
    go_wp2_with fail
    refine (rnewN_bad n _ hb).mono ?_
    rintro e w2 ⟨rfl, rfl⟩
    go_wp2_with fail
    refine (NetRuns_any _).mono ?_
    rintro e w3 ⟨rfl, x3⟩
    have X3 := Lib.hid x3
    clear x3
    go_wp2_with fail
    go_ret
    exact ⟨rfl, X3.out⟩
  · have hq0 : 2 ≤ n := by omega
    have hq1 : n ≤ 7 := by omega
    clear hb
    go_enter Try.func6, Try.ntmps6
    go_wp2_with fail
    refine (New_ok n w hq0 hq1).mono ?_
    rintro e w1 ⟨g, M, rfl, hd, hM, x1⟩
    have HD := Lib.hid hd
    have HM := Lib.hid hM
    have X1 := Lib.hid x1
    clear hd hM x1
    go_wp2_with fail
    refine (rnewN_ok n w1 hq0 hq1).mono ?_
    rintro e w2 ⟨h, rfl, hr, hg, x2⟩
    have HT := Lib.hid (tn_new HD.out HM.out X1.out hr hg x2)
    have X2 := Lib.hid (X1.out.trans0 x2)
    clear hr hg x2 HD X1 HM
    go_wp2_with fail
    go_loopw [9] (fun v9 wr => ∃ i : Nat, v9 = .int .i64 i ∧ i ≤ 80 ∧ Hid (∃ N m, m ≤ i * 1353245080303 ∧ TN (fun k => k < w.heap.size) g h N N m wr) ∧ Hid (Ext None_ w wr)) (fun v9 _ => 80 - (intOf v9).toNat)
    case atStart => exact ⟨0, rfl, by omega, Lib.hid ⟨_, 0, by omega, HT.out⟩, X2⟩
    case round =>
      clear HT X2
      obtain ⟨i, rfl, hi, ht, hx⟩ := hrel
      by_cases h1 : i < l.length
      · by_cases h60 : i < 80
        · skip
          obtain ⟨x, hqe⟩ : ∃ x, l[i]? = some x := ⟨_, List.getElem?_eq_getElem h1⟩
          obtain ⟨ad, hA0, hcells, hok⟩ := HL.out i x hqe
          subst hA0
          obtain ⟨N, m, hm, tt⟩ := ht.out
          have hx0 := hx.out
          have hcc : ∀ j v, x.cells[j]? = some v → wr.cell? ((ad.add (i * 5)).add j) = some v := fun j v hj => hx0.cell (hcells j v hj) (fun a => a)
          have hbl : (ad.add (i * 5)).block < w.heap.size := by
            have := World.block_lt_of_cell? w _ (hcells 0 _ rfl)
            rwa [add_block] at this
          have HCALL : Hid (∀ W, Ext None_ wr W → Calls Try.prog 19 #[.pointer (some ⟨g, 0, none⟩), .pointer (some ⟨h, 0, none⟩), .agg (askC x.k x.a x.b x.n x.A x.l.length x.c)] W (CallO w.heap.size g h m W)) := Lib.hid (fun W hW => callN_any w W x hok (by unfold maxLen; omega) (tt.ext0 hW) (hx0.trans0 hW))
          have HSAME : Hid (∀ W, (∃ N' m', m' ≤ m + 1353245080303 ∧ TN (fun k => k < w.heap.size) g h N' N' m' W) → Calls Try.prog 20 #[.pointer (some ⟨g, 0, none⟩), .pointer (some ⟨h, 0, none⟩), .int .i64 x.a, .int .i64 x.b] W fun e w' => e = .returned (.bool true) ∧ Ext None_ W w') := Lib.hid (fun W hW => by
            obtain ⟨N', m', _, t'⟩ := hW
            exact same_any x.a x.b hok.2.1 hok.2.2.1 W t')
          have HCELL : Hid (∀ W, Ext None_ wr W → ∀ j v, (askC x.k x.a x.b x.n x.A x.l.length x.c).toList[j]? = some v → W.cell? ((ad.add (i * 5)).add j) = some v) := Lib.hid (fun W hW j v hj => hW.cell (hcc j v hj) (fun a => a))
          have HFLD : Hid (∀ W, Ext (fun k => ¬ k < w.heap.size) wr W → True ∧ True) := Lib.hid (fun _ _ => ⟨trivial, trivial⟩)
          clear HFLD
          have hf1 : wr.cell? ⟨(ad.add (i * 5)).block, (ad.add (i * 5)).off + 1, none⟩ = some (.int .i64 x.a) := by
            rw [add_fldH _ _ (by omega)]
            exact hcc 1 _ rfl
          have hf2 : wr.cell? ⟨(ad.add (i * 5)).block, (ad.add (i * 5)).off + 2, none⟩ = some (.int .i64 x.b) := by
            rw [add_fldH _ _ (by omega)]
            exact hcc 2 _ rfl
          have HFLD : Hid (∀ W, Ext (fun k => ¬ k < w.heap.size) wr W → W.cell? ⟨(ad.add (i * 5)).block, (ad.add (i * 5)).off + 1, none⟩ = some (.int .i64 x.a) ∧ W.cell? ⟨(ad.add (i * 5)).block, (ad.add (i * 5)).off + 2, none⟩ = some (.int .i64 x.b)) := Lib.hid (fun W hW => ⟨hW.cell hf1 (fun e => e hbl), hW.cell hf2 (fun e => e hbl)⟩)
          have HNEXT : Hid (∀ W, ((∃ N' m', m' ≤ m + 1353245080303 ∧ TN (fun k => k < w.heap.size) g h N' N' m' W) ∧ Ext (fun k => ¬ k < w.heap.size) wr W) → (∃ N m, m ≤ (i + 1) * 1353245080303 ∧ TN (fun k => k < w.heap.size) g h N N m W) ∧ Ext None_ w W) := Lib.hid (fun W hW => by
            obtain ⟨⟨N', m', h1, h2⟩, h3⟩ := hW
            exact ⟨⟨N', m', by omega, h2⟩, hx0.trans h3 (fun k hk e => e hk)⟩)
          obtain ⟨xk, xa, xb, xn, xl, xA, xc⟩ := x
          simp only at HCALL HSAME HCELL HFLD
          obtain ⟨xL, hxL⟩ : ∃ n, n = xl.length := ⟨_, rfl⟩
          rw [← hxL] at HCALL HCELL
          clear hqe hcells hok tt hx0 hcc hbl hf1 hf2 hxL ht hx hm
          go_wp2_with fail
          refine wp_region_chain [6, 21] [(0, 0), (0, 0), (0, 0), (0, 0), (0, 0), (0, 0), (0, 1), (1, 1), (1, 1), (1, 1), (1, 1), (1, 1), (1, 1), (1, 1), (1, 1), (1, 1), (1, 1), (1, 1), (1, 1), (1, 1), (1, 1), (1, 2), (2, 2), (2, 2)] (fun j k => ¬ k < w.heap.size) [⟨fun W => Ext None_ wr W, fun _ _ h hx => h.trans0 hx⟩, ⟨fun W => (∃ N' m', m' ≤ m + 1353245080303 ∧ TN (fun k => k < w.heap.size) g h N' N' m' W) ∧ Ext (fun k => ¬ k < w.heap.size) wr W, fun _ _ h hx => ⟨(by obtain ⟨N', m', h1, h2⟩ := h.1; exact ⟨N', m', h1, h2.ext0 hx⟩), h.2.trans0 hx⟩⟩, ⟨fun W => (∃ N' m', m' ≤ m + 1353245080303 ∧ TN (fun k => k < w.heap.size) g h N' N' m' W) ∧ Ext (fun k => ¬ k < w.heap.size) wr W, fun _ _ h hx => ⟨(by obtain ⟨N', m', h1, h2⟩ := h.1; exact ⟨N', m', h1, h2.ext0 hx⟩), h.2.trans0 hx⟩⟩] [cv _, cv _, cv _, cv _, cv (.pointer (some (ad.add (i * 5)))), cv (.agg (askC xk xa xb xn xA xL xc)), cv (.bool true), cv (.bool false), cv (.bool false), cv _, cv _, cv _, cv _, cv (.pointer (some (ad.add (i * 5)))), cv (.pointer (some ⟨(ad.add (i * 5)).block, (ad.add (i * 5)).off + 1, none⟩)), cv (.int .i64 xa), cv _, cv _, cv (.pointer (some (ad.add (i * 5)))), cv (.pointer (some ⟨(ad.add (i * 5)).block, (ad.add (i * 5)).off + 2, none⟩)), cv (.int .i64 xb), cv (.bool true), cv (.bool false), cv (.bool false)] (by kernel_rfl) rfl rfl rfl rfl rfl rfl rfl rfl ((Ext.refl None_ wr).drew) ⟨
            (by
              intro Lq aq wq kq hd hj hlo hhi Kq hK
              rw [if_pos (wanted_none rfl)]
              have f5 := hj.base 5 rfl rfl
              exact opMove hK rfl (ev f5) rfl),
            (by
              intro Lq aq wq kq hd hj hlo hhi Kq hK
              rw [if_pos (wanted_none rfl)]
              have f7 := hj.base 7 rfl rfl
              exact opMove hK rfl (ev f7) rfl),
            (by
              intro Lq aq wq kq hd hj hlo hhi Kq hK
              rw [if_pos (wanted_none rfl)]
              have f1 := hj.base 1 rfl rfl
              exact opMove hK rfl (ev f1) rfl),
            (by
              intro Lq aq wq kq hd hj hlo hhi Kq hK
              rw [if_pos (wanted_none rfl)]
              have f9 := hj.base 9 rfl rfl
              exact opMove hK rfl (ev f9) rfl),
            (by
              intro Lq aq wq kq hd hj hlo hhi Kq hK
              rw [if_pos (wanted_none rfl)]
              have f47 := hj.val 2 47 rfl rfl (by simp) rfl (hd ⟨2, .data⟩ (by simp) rfl)
              have f48 := hj.val 3 48 rfl rfl (by simp) rfl (hd ⟨3, .data⟩ (by simp) rfl)
              exact opIndex hK rfl (k := .i64) (i := (i : Int)) (ev f47) (ev f48) Try.underlying40 askSzM (by omega) (by omega) (congrArg (fun z => Value.pointer (some (ad.add (z * 5)))) (by omega))),
            (by
              intro Lq aq wq kq hd hj hlo hhi Kq hK
              rw [if_pos (wanted_none rfl)]
              have f49 := hj.val 4 49 rfl rfl (by simp) rfl (hd ⟨4, .data⟩ (by simp) rfl)
              obtain rfl : kq = 0 := Nat.le_antisymm hhi (Nat.zero_le _)
              exact opLoadAdr hK rfl (ad.add (i * 5)) (ev f49) (askC xk xa xb xn xA xL xc).toList (HCELL.out wq hj.inv) Try.underlying47 rfl askSzM rfl),
            (by
              intro Lq aq wq hd hj Kq hK
              rw [if_pos (wanted_none rfl)]
              have f45 := hj.val 0 45 rfl rfl (by simp) rfl (hd ⟨0, .data⟩ (by simp) rfl)
              have f46 := hj.val 1 46 rfl rfl (by simp) rfl (hd ⟨1, .data⟩ (by simp) rfl)
              have f50 := hj.val 5 50 rfl rfl (by simp) rfl (hd ⟨5, .data⟩ (by simp) rfl)
              exact opCallC hK Try.func19 (by kernel_rfl) rfl (args := #[.pointer (some ⟨g, 0, none⟩), .pointer (some ⟨h, 0, none⟩), .agg (askC xk xa xb xn xA xL xc)]) (by simp [ev f45, ev f46, ev f50]) ((HCALL.out wq hj.inv).mono fun e w' h1 => ⟨_, h1.1, rfl, ⟨h1.2.1, ((hj.inv : Ext None_ wr wq).mono (fun _ _ e => e.elim)).trans h1.2.2 (fun _ _ e => e)⟩, h1.2.2⟩)),
            (by
              intro Lq aq wq kq hd hj hlo hhi Kq hK
              rw [if_pos (wanted_none rfl)]
              have f51 := hj.val 6 51 rfl rfl (by simp) rfl (hd ⟨6, .data⟩ (by simp) rfl)
              exact opNot hK rfl (ev f51) rfl),
            (by
              intro Lq aq wq kq hd hj hlo hhi Kq hK
              rw [if_pos (wanted_none rfl)]
              have f52 := hj.val 7 52 rfl rfl (by simp) rfl (hd ⟨7, .data⟩ (by simp) rfl)
              exact opMove hK rfl (ev f52) rfl),
            (by
              intro Lq aq wq kq hd hj hlo hhi Kq hK
              have fg := hj.val 8 53 rfl rfl (by simp) rfl (hd ⟨8, .guard⟩ (by simp) rfl)
              rw [wanted_some (c := false) rfl rfl rfl fg, if_pos (by rfl)]
              have f5 := hj.base 5 rfl rfl
              exact opMove hK rfl (ev f5) rfl),
            (by
              intro Lq aq wq kq hd hj hlo hhi Kq hK
              have fg := hj.val 8 53 rfl rfl (by simp) rfl (hd ⟨8, .guard⟩ (by simp) rfl)
              rw [wanted_some (c := false) rfl rfl rfl fg, if_pos (by rfl)]
              have f7 := hj.base 7 rfl rfl
              exact opMove hK rfl (ev f7) rfl),
            (by
              intro Lq aq wq kq hd hj hlo hhi Kq hK
              have fg := hj.val 8 53 rfl rfl (by simp) rfl (hd ⟨8, .guard⟩ (by simp) rfl)
              rw [wanted_some (c := false) rfl rfl rfl fg, if_pos (by rfl)]
              have f1 := hj.base 1 rfl rfl
              exact opMove hK rfl (ev f1) rfl),
            (by
              intro Lq aq wq kq hd hj hlo hhi Kq hK
              have fg := hj.val 8 53 rfl rfl (by simp) rfl (hd ⟨8, .guard⟩ (by simp) rfl)
              rw [wanted_some (c := false) rfl rfl rfl fg, if_pos (by rfl)]
              have f9 := hj.base 9 rfl rfl
              exact opMove hK rfl (ev f9) rfl),
            (by
              intro Lq aq wq kq hd hj hlo hhi Kq hK
              have fg := hj.val 8 53 rfl rfl (by simp) rfl (hd ⟨8, .guard⟩ (by simp) rfl)
              rw [wanted_some (c := false) rfl rfl rfl fg, if_pos (by rfl)]
              have f56 := hj.val 11 56 rfl rfl (by simp) rfl (hd ⟨11, .data⟩ (by simp) rfl)
              have f57 := hj.val 12 57 rfl rfl (by simp) rfl (hd ⟨12, .data⟩ (by simp) rfl)
              exact opIndex hK rfl (k := .i64) (i := (i : Int)) (ev f56) (ev f57) Try.underlying40 askSzM (by omega) (by omega) (congrArg (fun z => Value.pointer (some (ad.add (z * 5)))) (by omega))),
            (by
              intro Lq aq wq kq hd hj hlo hhi Kq hK
              have fg := hj.val 8 53 rfl rfl (by simp) rfl (hd ⟨8, .guard⟩ (by simp) rfl)
              rw [wanted_some (c := false) rfl rfl rfl fg, if_pos (by rfl)]
              have f58 := hj.val 13 58 rfl rfl (by simp) rfl (hd ⟨13, .data⟩ (by simp) rfl)
              exact opFieldH hK rfl (k := 1) (ev f58) (fun W => by kernel_rfl) rfl),
            (by
              intro Lq aq wq kq hd hj hlo hhi Kq hK
              have fg := hj.val 8 53 rfl rfl (by simp) rfl (hd ⟨8, .guard⟩ (by simp) rfl)
              rw [wanted_some (c := false) rfl rfl rfl fg, if_pos (by rfl)]
              have f59 := hj.val 14 59 rfl rfl (by simp) rfl (hd ⟨14, .data⟩ (by simp) rfl)
              obtain rfl : kq = 1 := Nat.le_antisymm hhi hlo
              exact opLoad hK rfl (ev f59) Try.underlying3 rfl (HFLD.out wq hj.inv.2).1 rfl),
            (by
              intro Lq aq wq kq hd hj hlo hhi Kq hK
              have fg := hj.val 8 53 rfl rfl (by simp) rfl (hd ⟨8, .guard⟩ (by simp) rfl)
              rw [wanted_some (c := false) rfl rfl rfl fg, if_pos (by rfl)]
              have f1 := hj.base 1 rfl rfl
              exact opMove hK rfl (ev f1) rfl),
            (by
              intro Lq aq wq kq hd hj hlo hhi Kq hK
              have fg := hj.val 8 53 rfl rfl (by simp) rfl (hd ⟨8, .guard⟩ (by simp) rfl)
              rw [wanted_some (c := false) rfl rfl rfl fg, if_pos (by rfl)]
              have f9 := hj.base 9 rfl rfl
              exact opMove hK rfl (ev f9) rfl),
            (by
              intro Lq aq wq kq hd hj hlo hhi Kq hK
              have fg := hj.val 8 53 rfl rfl (by simp) rfl (hd ⟨8, .guard⟩ (by simp) rfl)
              rw [wanted_some (c := false) rfl rfl rfl fg, if_pos (by rfl)]
              have f61 := hj.val 16 61 rfl rfl (by simp) rfl (hd ⟨16, .data⟩ (by simp) rfl)
              have f62 := hj.val 17 62 rfl rfl (by simp) rfl (hd ⟨17, .data⟩ (by simp) rfl)
              exact opIndex hK rfl (k := .i64) (i := (i : Int)) (ev f61) (ev f62) Try.underlying40 askSzM (by omega) (by omega) (congrArg (fun z => Value.pointer (some (ad.add (z * 5)))) (by omega))),
            (by
              intro Lq aq wq kq hd hj hlo hhi Kq hK
              have fg := hj.val 8 53 rfl rfl (by simp) rfl (hd ⟨8, .guard⟩ (by simp) rfl)
              rw [wanted_some (c := false) rfl rfl rfl fg, if_pos (by rfl)]
              have f63 := hj.val 18 63 rfl rfl (by simp) rfl (hd ⟨18, .data⟩ (by simp) rfl)
              exact opFieldH hK rfl (k := 2) (ev f63) (fun W => by kernel_rfl) rfl),
            (by
              intro Lq aq wq kq hd hj hlo hhi Kq hK
              have fg := hj.val 8 53 rfl rfl (by simp) rfl (hd ⟨8, .guard⟩ (by simp) rfl)
              rw [wanted_some (c := false) rfl rfl rfl fg, if_pos (by rfl)]
              have f64 := hj.val 19 64 rfl rfl (by simp) rfl (hd ⟨19, .data⟩ (by simp) rfl)
              obtain rfl : kq = 1 := Nat.le_antisymm hhi hlo
              exact opLoad hK rfl (ev f64) Try.underlying3 rfl (HFLD.out wq hj.inv.2).2 rfl),
            (by
              intro Lq aq wq hd hj Kq hK
              have fg := hj.val 8 53 rfl rfl (by simp) rfl (hd ⟨8, .guard⟩ (by simp) rfl)
              rw [wanted_some (c := false) rfl rfl rfl fg, if_pos (by rfl)]
              have f54 := hj.val 9 54 rfl rfl (by simp) rfl (hd ⟨9, .data⟩ (by simp) rfl)
              have f55 := hj.val 10 55 rfl rfl (by simp) rfl (hd ⟨10, .data⟩ (by simp) rfl)
              have f60 := hj.val 15 60 rfl rfl (by simp) rfl (hd ⟨15, .data⟩ (by simp) rfl)
              have f65 := hj.val 20 65 rfl rfl (by simp) rfl (hd ⟨20, .data⟩ (by simp) rfl)
              exact opCallC hK Try.func20 (by kernel_rfl) rfl (args := #[.pointer (some ⟨g, 0, none⟩), .pointer (some ⟨h, 0, none⟩), .int .i64 xa, .int .i64 xb]) (by simp [ev f54, ev f55, ev f60, ev f65]) ((HSAME.out wq hj.inv.1).mono fun e w' h1 => ⟨_, h1.1, rfl, ⟨(by obtain ⟨N', m', h2, h3⟩ := hj.inv.1; exact ⟨N', m', h2, h3.ext0 h1.2⟩), hj.inv.2.trans0 h1.2⟩, h1.2.mono (fun _ _ e => e.elim)⟩)),
            (by
              intro Lq aq wq kq hd hj hlo hhi Kq hK
              have fg := hj.val 8 53 rfl rfl (by simp) rfl (hd ⟨8, .guard⟩ (by simp) rfl)
              rw [wanted_some (c := false) rfl rfl rfl fg, if_pos (by rfl)]
              have f66 := hj.val 21 66 rfl rfl (by simp) rfl (hd ⟨21, .data⟩ (by simp) rfl)
              exact opNot hK rfl (ev f66) rfl),
            (by
              intro Lq aq wq kq hd hj hlo hhi Kq hK
              rw [if_pos (wanted_none rfl)]
              have f53 := hj.val 8 53 rfl rfl (by simp) rfl (hd ⟨8, .data⟩ (by simp) rfl)
              have f67 := hj.val 22 67 rfl rfl (by simp) rfl (hd ⟨22, .data⟩ (by simp) rfl)
              exact opPick hK rfl (b := false) (ev f53) ((if_neg (by decide)).trans (ev f67)) rfl),
            trivial⟩ ?fin
          case fin =>
            intro vs wZ hI hg
            have HN := Lib.hid (HNEXT.out wZ hI)
            have v23 : vs 23 = _ := hg 23 (by decide)
            clear hI hg
            simp only [putAll, v23, Nat.reduceAdd, Nat.zero_add]
            simp only [Act.put, List.setIfInBounds_toArray, List.set_cons_succ, List.set_cons_zero]
            go_wp2_with fail
            go_roundw
            case rel => exact ⟨i + 1, by go_num, by omega, Lib.hid HN.out.1, Lib.hid HN.out.2⟩
            case measure => simp [intOf]; omega
        · skip
          go_wp2_with fail
          go_loopw [10] (fun v10 wx => ∃ a : Int, v10 = .int .i64 a ∧ -1 ≤ a ∧ a ≤ 8 ∧ Hid (∃ N m, TN (fun k => k < w.heap.size) g h N N m wx) ∧ Hid (Ext None_ w wx)) (fun v10 _ => (8 - intOf v10).toNat)
          case atStart => exact ⟨-1, rfl, by omega, by omega, Lib.hid (by obtain ⟨N, m, _, h⟩ := ht.out; exact ⟨N, m, h⟩), hx⟩
          case round =>
            clear ht hx
            obtain ⟨a, rfl, ha0, ha1, ht, hx⟩ := hrel
            by_cases hae : a ≤ 7
            · go_wp2_with fail
              go_loopw [11] (fun v11 wx => ∃ b : Int, v11 = .int .i64 b ∧ -1 ≤ b ∧ b ≤ 8 ∧ Hid (∃ N m, TN (fun k => k < w.heap.size) g h N N m wx) ∧ Hid (Ext None_ w wx)) (fun v11 _ => (8 - intOf v11).toNat)
              case atStart => exact ⟨-1, rfl, by omega, by omega, ht, hx⟩
              case round =>
                clear ht hx
                obtain ⟨b, rfl, hb0, hb1, ht, hx⟩ := hrel
                by_cases hbe : b ≤ 7
                · obtain ⟨N, m, M, C, M', C', tx⟩ := ht.out
                  have HW := Lib.hid (Waiting_any g N M C m a b (by unfold I64; omega) (by unfold I64; omega) _ tx.1)
                  have HV := Lib.hid (rwaitN_any h N M' C' a b _ tx.2.1)
                  obtain ⟨L, hL⟩ : ∃ L, L = (N.wait a b).length := ⟨_, rfl⟩
                  rw [← hL] at HW HV
                  clear tx hL
                  go_wp2_with fail
                  refine HW.out.mono ?_
                  rintro e w3 ⟨rfl, rfl⟩
                  clear HW
                  go_wp2_with fail
                  refine HV.out.mono ?_
                  rintro e w3 ⟨rfl, rfl⟩
                  clear HV
                  go_wp2_with fail
                  go_roundw
                  case rel => exact ⟨b + 1, by go_num, by omega, by omega, ht, hx⟩
                  case measure => simp [intOf]; omega
                · go_wp2_with fail
                  go_roundw
                  case rel => exact ⟨a + 1, by go_num, by omega, by omega, ht, hx⟩
                  case measure => simp [intOf]; omega
            · go_wp2_with fail
              refine (NetRuns_any _).mono ?_
              rintro e w3 ⟨rfl, x3⟩
              have H3 := Lib.hid (hx.out.trans0 x3)
              clear x3
              go_wp2_with fail
              go_ret
              exact ⟨rfl, H3.out⟩
      · skip
        go_wp2_with fail
        go_loopw [10] (fun v10 wx => ∃ a : Int, v10 = .int .i64 a ∧ -1 ≤ a ∧ a ≤ 8 ∧ Hid (∃ N m, TN (fun k => k < w.heap.size) g h N N m wx) ∧ Hid (Ext None_ w wx)) (fun v10 _ => (8 - intOf v10).toNat)
        case atStart => exact ⟨-1, rfl, by omega, by omega, Lib.hid (by obtain ⟨N, m, _, h⟩ := ht.out; exact ⟨N, m, h⟩), hx⟩
        case round =>
          clear ht hx
          obtain ⟨a, rfl, ha0, ha1, ht, hx⟩ := hrel
          by_cases hae : a ≤ 7
          · go_wp2_with fail
            go_loopw [11] (fun v11 wx => ∃ b : Int, v11 = .int .i64 b ∧ -1 ≤ b ∧ b ≤ 8 ∧ Hid (∃ N m, TN (fun k => k < w.heap.size) g h N N m wx) ∧ Hid (Ext None_ w wx)) (fun v11 _ => (8 - intOf v11).toNat)
            case atStart => exact ⟨-1, rfl, by omega, by omega, ht, hx⟩
            case round =>
              clear ht hx
              obtain ⟨b, rfl, hb0, hb1, ht, hx⟩ := hrel
              by_cases hbe : b ≤ 7
              · obtain ⟨N, m, M, C, M', C', tx⟩ := ht.out
                have HW := Lib.hid (Waiting_any g N M C m a b (by unfold I64; omega) (by unfold I64; omega) _ tx.1)
                have HV := Lib.hid (rwaitN_any h N M' C' a b _ tx.2.1)
                obtain ⟨L, hL⟩ : ∃ L, L = (N.wait a b).length := ⟨_, rfl⟩
                rw [← hL] at HW HV
                clear tx hL
                go_wp2_with fail
                refine HW.out.mono ?_
                rintro e w3 ⟨rfl, rfl⟩
                clear HW
                go_wp2_with fail
                refine HV.out.mono ?_
                rintro e w3 ⟨rfl, rfl⟩
                clear HV
                go_wp2_with fail
                go_roundw
                case rel => exact ⟨b + 1, by go_num, by omega, by omega, ht, hx⟩
                case measure => simp [intOf]; omega
              · go_wp2_with fail
                go_roundw
                case rel => exact ⟨a + 1, by go_num, by omega, by omega, ht, hx⟩
                case measure => simp [intOf]; omega
          · go_wp2_with fail
            refine (NetRuns_any _).mono ?_
            rintro e w3 ⟨rfl, x3⟩
            have H3 := Lib.hid (hx.out.trans0 x3)
            clear x3
            go_wp2_with fail
            go_ret
            exact ⟨rfl, H3.out⟩
theorem NetPlays_row (n : Int) (hn : (Lit.int .i64 n).wf = true) (x : AkM) {w : World} (hx : x.ok w) : Calls Try.prog 6 #[.int .i64 n, x.v] w fun e w' => e = .returned (.bool true) ∧ Ext None_ w w' :=
  NetPlays_any n (i64_of hn) x.2.1 x.2.2 x.1 w hx.1 hx.2
end Go.Proofs.Ythjabbheobpoeaa
