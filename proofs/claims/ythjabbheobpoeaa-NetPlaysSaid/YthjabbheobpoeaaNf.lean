/- Package net, walked: Twice, Deliver, Drop. -/
import Derived.Test.YthjabbheobpoeaaNe
set_option linter.unusedVariables false
set_option linter.unusedSimpArgs false
namespace Go.Proofs.Ythjabbheobpoeaa
open Go.RowKit B
def twiceN (N : NS) (a b k : Int) : Msg × Bool := if atN N a b k < 0 then (msg0, false) else ((N.wait a b).getD (atN N a b k).toNat msg0, true)
def dropN (N : NS) (a b k : Int) : NS := if atN N a b k < 0 then N else takeN N a b (atN N a b k).toNat
theorem atN_lt (N : NS) (a b k : Int) (h : ¬ atN N a b k < 0) : ∃ i : Nat, atN N a b k = i ∧ i < (N.wait a b).length := by
  unfold atN at h ⊢
  split at h
  · omega
  · rename_i hn
    rw [if_neg hn]
    have h1 := Int.emod_nonneg k (show ((N.wait a b).length : Int) ≠ 0 by omega)
    have h2 := Int.emod_lt_of_pos k (show 0 < ((N.wait a b).length : Int) by omega)
    exact ⟨(k % ((N.wait a b).length : Int)).toNat, by omega, by omega⟩
def TwP (q : Msg) (ok : Bool) (w : World) (e : Ending) (w' : World) : Prop := ∃ A c, e = .returned (.tuple #[.agg (msgC q A c), .bool ok]) ∧ Own w' 72 2 (fun k => w.heap.size ≤ k) (.slice A q.es.length c) q.es.length (entV q.es)
theorem msg_range {w : World} {C M : Nat → Prop} {A : Option Addr} {n c : Nat} {l : List Msg} (h : QAt w C M (.slice A n c) l) {i : Nat} {q : Msg} (hq : l[i]? = some q) : ∃ (g : Nat) (p : Option Addr × Nat), A = some ⟨g, 0, none⟩ ∧ w.rangeAt g (i * 10) (msgC q p.1 p.2).toList ∧ q.es.length ≤ 5864062014805 ∧ Row w p.1 (entV q.es) := by
  obtain ⟨pv, h1, h2, h3⟩ := h
  have hi := (List.getElem?_eq_some_iff.1 hq).1
  obtain ⟨p, hp⟩ : ∃ p, pv[i]? = some p := ⟨_, List.getElem?_eq_getElem (by omega)⟩
  obtain ⟨a1, a2, a3⟩ := h3 i q p hq hp
  rcases h2.own.2 with ⟨_, hn⟩ | ⟨g, cap, cur, hv, _, hg, hnc, _, hcs, htake⟩
  · omega
  · injection hv with hv _ _
    refine ⟨g, p, hv, fun j v hj => ?_, a1, a2⟩
    have hjl : j < 10 := by have := (List.getElem?_eq_some_iff.1 hj).1; rwa [msgC_len] at this
    have hz : (l.zip pv)[i]? = some (q, p) := by rw [List.getElem?_zip_eq_some]; exact ⟨hq, hp⟩
    have hf := flat_ten (fun x : Msg × (Option Addr × Nat) => (msgC x.1 x.2.1 x.2.2).toList) (fun x => msgC_len _ _ _) (l.zip pv) i j (q, p) hz hjl
    rw [cell_of_row w g (i * 10 + j) cur _ (0, 0) hg]
    have ht := congrArg (fun z : List Value => z[i * 10 + j]?) htake
    simp only [List.getElem?_take] at ht
    rw [if_pos (by omega)] at ht
    have : (msgsV l pv)[i * 10 + j]? = some v := hf.trans hj
    rw [this] at ht
    simpa using ht
set_option maxRecDepth 100000 in
set_option maxHeartbeats 8000000 in
theorem Twice_any (g : Nat) (N : NS) (M C : Nat → Prop) (m : Nat) (a b k : Int) (ha : I64 a) (hb : I64 b) (hk : I64 k) (w : World) (h : NetAt w M C g N m) : Calls Try.prog 10 #[.pointer (some ⟨g, 0, none⟩), .int .i64 a, .int .i64 b, .int .i64 k] w fun e w' => TwP (twiceN N a b k).1 (twiceN N a b k).2 w e w' ∧ Ext None_ w w' := by
  have HAT := Lib.hid (at_any g N M C m a b k ha hb hk _ (h.ext0 (x0 w (.cells (msgC msg0 none 0) 28))))
  have HZ := Lib.hid (Blk.new w (msgC msg0 none 0) 28)
  by_cases hat : atN N a b k < 0
  · have HT : Hid (twiceN N a b k = (msg0, false)) := Lib.hid (by unfold twiceN; rw [if_pos hat])
    obtain ⟨z, hz⟩ : ∃ z, z = atN N a b k := ⟨_, rfl⟩
    rw [← hz] at HAT hat
    clear h hz
    go_enter Try.func10, Try.ntmps10
    go_wp2_with (first
      | (go_at_call 24; refine HAT.out.mono ?_; rintro e w1 ⟨rfl, rfl⟩; clear HAT)
      | (refine wpList_store_blk rfl 28 (.tmp 8) (.tmp 18) rfl w.heap.size (msgC msg0 none 0) rfl rfl 28 (msgC msg0 none 0) HZ.out msgSize rfl rfl ?_; intro w2 hb2 hx2; have HB2 := Lib.hid hb2; have HX2 := Lib.hid hx2; clear hb2 hx2))
    refine bodyPost_ret (results2_blk rfl _ _ w.heap.size 28 (msgC msg0 none 0) _ rfl rfl HB2.out Try.underlying28 rfl msgSize) rfl ?_
    rw [HT.out]
    exact ⟨⟨none, 0, rfl, Own.nil _ _ _ _⟩, (x0 w _).trans HX2.out (fun q hq e => by have e : q = w.heap.size := e; omega)⟩
  · obtain ⟨i, hi, hil⟩ := atN_lt N a b k hat
    obtain ⟨q, hq⟩ : ∃ q, (N.wait a b)[i]? = some q := ⟨_, List.getElem?_eq_getElem hil⟩
    have HT : Hid (twiceN N a b k = (q, true)) := Lib.hid (by unfold twiceN; rw [if_neg hat, hi, Int.toNat_natCast, List.getD_eq_getElem?_getD, hq]; rfl)
    obtain ⟨bw, bc, A, c, c0, c1, c2, l1, l2, hqa⟩ := (h.ext0 (x0 w (.cells (msgC msg0 none 0) 28))).asks a b ha hb
    obtain ⟨ga, p, rfl, hrange, hel, hrow⟩ := msg_range hqa hq
    obtain ⟨p1, p2⟩ := p
    have HRG := Lib.hid hrange
    have HROW := Lib.hid hrow
    obtain ⟨n, hn⟩ : ∃ n, n = (N.wait a b).length := ⟨_, rfl⟩
    rw [← hn] at l1 hil
    rw [hi] at HAT
    have hlen := h.len a b
    rw [← hn] at hlen
    clear h hat hi hq hqa hrange hrow hn l2 c2
    go_enter Try.func10, Try.ntmps10
    go_wp2_with (first
      | (go_at_call 24; refine HAT.out.mono ?_; rintro e w1 ⟨rfl, rfl⟩; clear HAT)
      | (refine wpList_load_mid rfl 28 (.tmp 28) rfl ga (i * 10) (by first | rfl | (simp [Addr.add]; done)) (msgC q p1 p2).toList _ HRG.out Try.underlying28 rfl msgSize ?_)
      | (go_at_call 23; refine (own_any q p1 p2 _ HROW.out hel).mono ?_; rintro e w1 ⟨A', c', rfl, ho, hx⟩; have HO := Lib.hid ho; have HX := Lib.hid ((x0 w _).trans0 hx); have HZ1 := Lib.hid (HZ.out.ext hx (fun a => a)); clear ho hx HZ)
      | (refine wpList_store_blk rfl 28 (.tmp 8) (.tmp 30) rfl w.heap.size (msgC q A' c') rfl rfl 28 (msgC msg0 none 0) HZ1.out msgSize rfl rfl ?_; intro w2 hb2 hx2; have HB2 := Lib.hid hb2; have HX2 := Lib.hid hx2; clear hb2 hx2))
    refine bodyPost_ret (results2_blk rfl _ _ w.heap.size 28 (msgC q A' c') _ rfl rfl HB2.out Try.underlying28 rfl msgSize) rfl ?_
    rw [HT.out]
    exact ⟨⟨A', c', rfl, (HO.out.ext HX2.out (fun r hr e => by have := HO.out.blk r hr; rw [size_alloc] at this; have e : r = w.heap.size := e; omega)).mono (fun r _ hr => by rw [size_alloc] at hr; omega)⟩, HX.out.trans HX2.out (fun r hr e => by have e : r = w.heap.size := e; omega)⟩
end Go.Proofs.Ythjabbheobpoeaa
