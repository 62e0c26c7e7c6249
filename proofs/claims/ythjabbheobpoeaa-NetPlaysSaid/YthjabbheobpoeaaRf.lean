/- The document's net, walked: Drop, Clear. Written by gen_rf.py. -/
import Derived.Test.YthjabbheobpoeaaRe
set_option linter.unusedVariables false
set_option linter.unusedSimpArgs false
namespace Go.Proofs.Ythjabbheobpoeaa
open Go.RowKit B
theorem opIndexArr7 {P : Program} {o : Oper} {a : Act} {w : World} {K : Act → World → Prop} {Q : Exit → Act → World → Prop} {p : Value → World → Prop} (hK : ∀ v w', p v w' → Ext None_ w w' → K (a.put o.dst v) w') {t : TypeId} {x ix : Operand} (ho : o.op = .indexAddr t x ix) {b off j sz len : Nat} {e : TypeId} {k : IntKind} {i : Int} (hx : a.eval x = .pointer (some ⟨b, off, none⟩)) (hi : a.eval ix = .int k i)
    (ht : P.underlying t = some (.array len e)) (hsz : (P.info? e).map (·.size) = some sz) (h0 : 0 ≤ i) (h1 : i < len) (hj : off + i.toNat * sz = j) (hp : p (.pointer (some ⟨b, j, none⟩)) w) : o.wp P a w K Q := by
  refine opVal hK (v := .pointer (some ⟨b, j, none⟩)) ?_ hp
  unfold execOp
  simp only [ho, hx, hi]
  have hadd : (⟨b, off, none⟩ : Addr).add (i.toNat * sz) = ⟨b, j, none⟩ := by
    subst hj
    unfold Addr.add
    split <;> simp_all
  cases hq : P.info? e with
  | none => simp [hq] at hsz
  | some inf =>
    have hs : inf.size = sz := by simpa [hq] using hsz
    simp [Instr.indexAt, Instr.sureAddr, asIntOf, run_underlying ht, sizeOf, typeInfo, hq, hs, h0, h1, hadd]
theorem msg_slice0 (W : World) : (Instr.buildSlice 45 0 #[]).run Try.prog W = .ok (.slice (some ⟨W.heap.size, 0, none⟩) 0 0) (W.alloc (.cells #[] 28)) := by
  obtain ⟨ie, hi, hz⟩ := Option.map_eq_some_iff.1 infoMsg
  simp [Instr.buildSlice, run_underlying (P := Try.prog) Try.underlying45, sizeOf, typeInfo, hi, newRow, Instr.fill]
  rw [show Array.range 0 = #[] from Array.eq_empty_of_size_eq_zero (by simp), Array.map_empty]
theorem wf_take {N : NS} (h : N.wf) (a b : Int) (i : Nat) : (takeN N a b i).wf := by
  refine ⟨fun x y hxy => ⟨?_, (h.1 x y hxy).2⟩, h.2⟩
  have hxy' : thereB N x y = false := hxy
  show updW N.wait a b ((N.wait a b).eraseIdx i) x y = []
  unfold updW
  split
  · next e =>
    obtain ⟨rfl, rfl⟩ := e
    rw [(h.1 x y hxy').1]
    rfl
  · exact (h.1 x y hxy').1
/-! ### the words of the region that takes a message out of a row -/
def SQ (w : World) (g : Nat) : Nat → Nat → Prop := fun j k => (j ≤ 1 ∧ w.heap.size ≤ k) ∨ (j = 2 ∧ k = g)
def cOm (w : World) (g j n : Nat) (xs : List Value) : CG (SQ w g) := cR j j (fun u W => Own W 28 10 (fun k => w.heap.size ≤ k) u n xs) (fun _ _ _ h hx => h.ext0 hx) (fun k h1 h2 => by omega)
theorem RLeftN.trans0 {w w1 w2 : World} {M C : Nat → Prop} {g : Nat} {N : NS} (h : RLeftN w w1 M C g N) (hx : Ext None_ w1 w2) : RLeftN w w2 M C g N := by
  obtain ⟨M', C', h1, h2, h3, h4⟩ := h
  exact ⟨M', C', h1.ext0 hx, h2.trans0 hx, h3, h4⟩
set_option maxRecDepth 100000 in
set_option maxHeartbeats 8000000 in
theorem rdrop_any (g : Nat) (N : NS) (M C : Nat → Prop) (a b k : Int) (hk : I64 k) (w : World) (h : RNAt w M C g N) : Calls Try.prog 31 #[.pointer (some ⟨g, 0, none⟩), .int .i64 a, .int .i64 b, .int .i64 k] w fun e w' => e = .returned (.bool (!decide (atN N a b k < 0))) ∧ RLeftN w w' M C g (dropN N a b k) := by
  have HNU := Lib.hid (rnumber_any g N M C a b k hk w h)
  by_cases hat : atN N a b k < 0
  · have HD : Hid (dropN N a b k = N) := Lib.hid (by unfold dropN; rw [if_pos hat])
    have HH := Lib.hid h
    have hdd : decide (atN N a b k < 0) = true := decide_eq_true hat
    rw [hdd, HD.out]
    obtain ⟨z, hz⟩ : ∃ z, z = atN N a b k := ⟨_, rfl⟩
    rw [← hz] at HNU hat
    clear h hz hdd
    go_enter Try.func31, Try.ntmps31
    go_wp2_with fail
    refine HNU.out.mono ?_
    rintro e w1 ⟨rfl, rfl⟩
    go_wp2_with fail
    go_ret
    exact ⟨rfl, RLeftN.same HH.out (Ext.refl _ _)⟩
  · obtain ⟨i, hi, hil⟩ := atN_lt N a b k hat
    have hth : thereB N a b = true := by
      cases ht : thereB N a b with
      | true => rfl
      | false => rw [(h.wf.1 a b ht).1] at hil; simp at hil
    have hdd : decide (atN N a b k < 0) = false := decide_eq_false hat
    have HD : Hid (dropN N a b k = takeN N a b i) := Lib.hid (by unfold dropN; rw [if_neg hat, hi, Int.toNat_natCast])
    rw [hdd, HD.out]
    rw [hi] at HNU
    obtain ⟨x, y, rfl, rfl, hx, hy⟩ := there_nat h.nn.2 hth
    obtain ⟨A, c, c1, c2, hqa⟩ := h.asks hx hy
    obtain ⟨pv, hpv, hown, hent⟩ := hqa
    obtain ⟨A', c', hv, hnc, hcm, hrow⟩ := hown.slice
    obtain ⟨rfl, rfl⟩ : A = A' ∧ c = c' := by
      simp at hv
      exact hv
    obtain ⟨n, hn⟩ : ∃ n, n = (N.wait x y).length := ⟨_, rfl⟩
    have hlen := h.len x y
    obtain ⟨l, hl⟩ : ∃ l, l = N.wait x y := ⟨_, rfl⟩
    rw [← hl] at hpv hrow hent
    have hln : l.length = n := by rw [hl, hn]
    rw [← hn] at hil hnc hlen c1
    obtain ⟨A1, hA1, hc1⟩ := cut_h (P := Try.prog) 45 28 10 Try.underlying45 infoMsg A n c (i : Int) (by omega) (by omega)
    obtain ⟨A2, hA2, hc2⟩ := cut_l (P := Try.prog) 45 28 10 Try.underlying45 infoMsg A n c ((i : Int) + 1) (by omega) (by omega) hnc
    rw [show (i : Int).toNat = i by omega] at hc1
    rw [show ((i : Int) + 1).toNat = i + 1 by omega] at hA2 hc2
    have hvl : (msgsV l pv).length = n * 10 := by rw [msgsV_length _ _ hpv, hln]
    have HR1 : Hid (∀ W, Ext None_ w W → Row W A1 (msgsV (l.take i) (pv.take i))) := Lib.hid (fun W hx => by
      have := cut_row (lo := 0) (hi := i) (size := 10) (hrow.ext0 hx) hA1 (by rw [hvl]; omega)
      rw [msgsV_take _ _ _ hpv] at this
      simpa using this)
    have HR2 : Hid (∀ W, Ext None_ w W → Row W A2 (msgsV (l.drop (i + 1)) (pv.drop (i + 1)))) := Lib.hid (fun W hx => by
      have := cut_row (lo := i + 1) (hi := n) (size := 10) (hrow.ext0 hx) hA2 (by rw [hvl]; omega)
      rwa [List.take_of_length_le (by rw [hvl]; omega), msgsV_drop _ _ _ hpv] at this)
    have HC1 := Lib.hid hc1
    have HC2 := Lib.hid hc2
    have HPT : Hid ((pv.take i).length = (l.take i).length ∧ (pv.drop (i + 1)).length = (l.drop (i + 1)).length) := Lib.hid ⟨by simp [hpv], by simp [hpv]⟩
    have HL := Lib.hid hln
    have HFIN : Hid (∀ (u : Value) (wq : World), Ext None_ w wq → Own wq 28 10 (fun k => w.heap.size ≤ k) u (n - 1) (msgsV (l.take i) (pv.take i) ++ msgsV (l.drop (i + 1)) (pv.drop (i + 1))) → RLeftN w (wq.setCell ⟨g, 1 + x * 7 + y, none⟩ u) M C g (takeN N x y i) ∧ (wq.cell? ⟨g, 1 + x * 7 + y, none⟩).isSome = true ∧ wq.frozen? ⟨g, 1 + x * 7 + y, none⟩ = false) := Lib.hid (by
      intro u wq hxq ho
      have he : msgsV (l.take i) (pv.take i) ++ msgsV (l.drop (i + 1)) (pv.drop (i + 1)) = msgsV (l.eraseIdx i) (pv.eraseIdx i) := by
        rw [List.eraseIdx_eq_take_drop_succ, List.eraseIdx_eq_take_drop_succ, msgsV_append _ _ _ _ (by simp [hpv])]
      have hel : (l.eraseIdx i).length = n - 1 := by rw [List.length_eraseIdx, if_pos (by omega), hln]
      have hxr : Ext (fun k => (Value.slice A n c).ownBlock = some k) w wq := hxq.mono (fun _ _ e => e.elim)
      refine h.put hx hy hth c1 hxr (C1 := C) ?_ (fun k hk => hk) (fun k hk => .inl hk) (fun k hk => Nat.lt_of_lt_of_le (h.clt k hk) hxq.size) (fun k hk e => by have := h.clt k hk; have := ho.blk k e; omega) (by rw [← hl, hel]; omega)
      rw [← hl]
      refine ⟨pv.eraseIdx i, by rw [List.length_eraseIdx, List.length_eraseIdx, hpv], ?_, fun j q p hq hp => ?_⟩
      · rw [he] at ho
        rw [hel]
        exact ⟨ho.own, fun k hk => .inr (ho.blk k hk)⟩
      · have hjj : ∃ j' : Nat, l[j']? = some q ∧ pv[j']? = some p := by
          rw [List.getElem?_eraseIdx] at hq hp
          by_cases hji : j < i
          · rw [if_pos hji] at hq hp; exact ⟨j, hq, hp⟩
          · rw [if_neg hji] at hq hp; exact ⟨j + 1, hq, hp⟩
        obtain ⟨j', h1, h2⟩ := hjj
        obtain ⟨b1, b2, b3⟩ := hent j' q p h1 h2
        exact ⟨b1, b2.ext0 hxq, b3⟩)
    clear h hown hent hrow hA1 hA2 hc1 hc2 hpv hl hv hvl hln hn hcm c2 hth hdd HD hat hi
    go_enter Try.func31, Try.ntmps31
    go_wp2_with fail
    refine HNU.out.mono ?_
    rintro e w1 ⟨rfl, rfl⟩
    go_wp2_with fail
    refine wp_region_chain [7, 12, 17] [(0, 2), (0, 2), (0, 2), (0, 0), (0, 0), (0, 0), (0, 0), (0, 1), (0, 1), (0, 1), (0, 1), (0, 1), (1, 2), (0, 2), (0, 2), (0, 2), (0, 2), (2, 3)] (SQ w g) [⟨fun W => Ext None_ w.drew W, fun _ _ h hx => h.trans0 hx⟩, ⟨fun W => Ext None_ w.drew W, fun _ _ h hx => h.trans0 hx⟩, ⟨fun W => Ext None_ w.drew W, fun _ _ h hx => h.trans0 hx⟩, ⟨fun W => RLeftN w W M C g (takeN N x y i), fun _ _ h hx => h.trans0 hx⟩] [cv _, cv _, cv _, cOm w g 0 0 [], cv _, cv _, cv (.slice A1 i c), cOm w g 1 i (msgsV (l.take i) (pv.take i)), cv _, cv _, cv (.int .i64 ((i : Int) + 1)), cv (.slice A2 (n - (i + 1)) (c - (i + 1))), cOm w g 2 (n - 1) ((msgsV (l.take i) (pv.take i)) ++ (msgsV (l.drop (i + 1)) (pv.drop (i + 1)))), cv _, cv _, cv (.pointer (some ⟨g, 1 + x * 7, none⟩)), cv (.pointer (some ⟨g, 1 + x * 7 + y, none⟩)), cAny] (by kernel_rfl) rfl rfl rfl rfl rfl rfl rfl rfl ((Ext.refl None_ w.drew : Ext None_ w.drew w.drew)) ⟨
      (by
        intro Lq aq wq kq hd hj hlo hhi Kq hK
        rw [if_pos (wanted_none rfl)]
        have f0 := hj.base 0 rfl rfl
        exact opMove hK rfl (ev f0) rfl),
      (by
        intro Lq aq wq kq hd hj hlo hhi Kq hK
        rw [if_pos (wanted_none rfl)]
        have f1 := hj.base 1 rfl rfl
        exact opMove hK rfl (ev f1) rfl),
      (by
        intro Lq aq wq kq hd hj hlo hhi Kq hK
        rw [if_pos (wanted_none rfl)]
        have f2 := hj.base 2 rfl rfl
        exact opMove hK rfl (ev f2) rfl),
      (by
        intro Lq aq wq kq hd hj hlo hhi Kq hK
        rw [if_pos (wanted_none rfl)]
        have hj0 : Ext None_ w.drew wq := by
          obtain rfl : kq = 0 := Nat.le_antisymm hhi (Nat.zero_le _)
          exact hj.inv
        exact opSlice hK rfl (ps := #[]) (by simp) msg_slice0 ⟨Nat.zero_le _, fun _ => (Own.made (e := 28) (size := 10) wq #[] 0 (by simp [maxLen]) rfl).mono (fun k _ e => by have := Ext.size ((Ext.refl None_ w).drew.trans0 hj0); omega)⟩),
      (by
        intro Lq aq wq kq hd hj hlo hhi Kq hK
        rw [if_pos (wanted_none rfl)]
        have f10 := hj.base 10 rfl rfl
        exact opMove hK rfl (ev f10) rfl),
      (by
        intro Lq aq wq kq hd hj hlo hhi Kq hK
        rw [if_pos (wanted_none rfl)]
        have f9 := hj.base 9 rfl rfl
        exact opMove hK rfl (ev f9) rfl),
      (by
        intro Lq aq wq kq hd hj hlo hhi Kq hK
        rw [if_pos (wanted_none rfl)]
        have f30 := hj.val 4 30 rfl rfl (by simp) rfl (hd ⟨4, .data⟩ (by simp) rfl)
        have f31 := hj.val 5 31 rfl rfl (by simp) rfl (hd ⟨5, .data⟩ (by simp) rfl)
        exact opSliceOp hK rfl (ev f30) rfl (congrArg some (ev f31)) rfl Try.underlying45 HC1.out rfl),
      (by
        intro Lq aq wq hd hj Kq hK
        rw [if_pos (wanted_none rfl)]
        obtain ⟨u29, f29, g29⟩ := hj.at_ 3 29 rfl rfl (by simp) (hd ⟨3, .data⟩ (by simp) rfl)
        have f32 := hj.val 6 32 rfl rfl (by simp) rfl (hd ⟨6, .data⟩ (by simp) rfl)
        have ho := g29.2 (Nat.le_refl _)
        exact wpAppM _ _ rfl _ u29 0 [] (ev f29) ho A1 i c _ (ev f32) (by rw [msgsV_length _ _ HPT.out.1, List.length_take, HL.out]; omega) (HR1.out _ ((Ext.refl None_ w).drew.trans0 (hj.inv : Ext None_ w.drew wq))) (msgsV_one _ _) (by omega) (fun v' w' h1 h2 => hK v' w' ⟨Nat.le_refl _, fun _ => by
          rw [Nat.zero_add, List.nil_append] at h1
          exact h1.mono (fun k _ e => e.elim (fun e => ho.blk k e) (fun e => Nat.le_trans (Ext.size ((Ext.refl None_ w).drew.trans0 (hj.inv : Ext None_ w.drew wq))) e))⟩ (Ext.trans hj.inv h2 (fun k hk e => absurd (ho.blk k e) (Nat.not_le.2 hk))) (h2.mono (fun k _ e => .inl ⟨by decide, ho.blk k e⟩)))),
      (by
        intro Lq aq wq kq hd hj hlo hhi Kq hK
        rw [if_pos (wanted_none rfl)]
        have f10 := hj.base 10 rfl rfl
        exact opMove hK rfl (ev f10) rfl),
      (by
        intro Lq aq wq kq hd hj hlo hhi Kq hK
        rw [if_pos (wanted_none rfl)]
        have f9 := hj.base 9 rfl rfl
        exact opMove hK rfl (ev f9) rfl),
      (by
        intro Lq aq wq kq hd hj hlo hhi Kq hK
        rw [if_pos (wanted_none rfl)]
        have f35 := hj.val 9 35 rfl rfl (by simp) rfl (hd ⟨9, .data⟩ (by simp) rfl)
        exact opBin hK rfl (ev f35) rfl (guardInt _ _ _ _ _ _ _ _ _) (binAdd _ _ _ _ (IntWalk.i64_in _ (by omega))) rfl),
      (by
        intro Lq aq wq kq hd hj hlo hhi Kq hK
        rw [if_pos (wanted_none rfl)]
        have f34 := hj.val 8 34 rfl rfl (by simp) rfl (hd ⟨8, .data⟩ (by simp) rfl)
        have f36 := hj.val 10 36 rfl rfl (by simp) rfl (hd ⟨10, .data⟩ (by simp) rfl)
        exact opSliceOp hK rfl (ev f34) (congrArg some (ev f36)) rfl rfl Try.underlying45 HC2.out rfl),
      (by
        intro Lq aq wq hd hj Kq hK
        rw [if_pos (wanted_none rfl)]
        obtain ⟨u33, f33, g33⟩ := hj.at_ 7 33 rfl rfl (by simp) (hd ⟨7, .data⟩ (by simp) rfl)
        have f37 := hj.val 11 37 rfl rfl (by simp) rfl (hd ⟨11, .data⟩ (by simp) rfl)
        have ho := g33.2 (Nat.le_refl _)
        exact wpAppM _ _ rfl _ u33 i _ (ev f33) ho A2 (n - (i + 1)) (c - (i + 1)) _ (ev f37) (by rw [msgsV_length _ _ HPT.out.2, List.length_drop, HL.out]) (HR2.out _ ((Ext.refl None_ w).drew.trans0 (hj.inv : Ext None_ w.drew wq))) (msgsV_one _ _) (by omega) (fun v' w' h1 h2 => hK v' w' ⟨Nat.le_refl _, fun _ => own_grow (Ext.size ((Ext.refl None_ w).drew.trans0 (hj.inv : Ext None_ w.drew wq))) ho.blk (by omega) h1⟩ (Ext.trans hj.inv h2 (fun k hk e => absurd (ho.blk k e) (Nat.not_le.2 hk))) (h2.mono (fun k _ e => .inl ⟨by decide, ho.blk k e⟩)))),
      (by
        intro Lq aq wq kq hd hj hlo hhi Kq hK
        rw [if_pos (wanted_none rfl)]
        have f26 := hj.val 0 26 rfl rfl (by simp) rfl (hd ⟨0, .data⟩ (by simp) rfl)
        exact opNil hK rfl (ev f26) rfl),
      (by
        intro Lq aq wq kq hd hj hlo hhi Kq hK
        rw [if_pos (wanted_none rfl)]
        have f39 := hj.val 13 39 rfl rfl (by simp) rfl (hd ⟨13, .data⟩ (by simp) rfl)
        exact opFieldA hK rfl (k := 1) (ev f39) (fun W => by kernel_rfl) rfl),
      (by
        intro Lq aq wq kq hd hj hlo hhi Kq hK
        rw [if_pos (wanted_none rfl)]
        have f40 := hj.val 14 40 rfl rfl (by simp) rfl (hd ⟨14, .data⟩ (by simp) rfl)
        have f27 := hj.val 1 27 rfl rfl (by simp) rfl (hd ⟨1, .data⟩ (by simp) rfl)
        exact opIndexArr7 hK rfl (j := 1 + x * 7) (sz := 7) (len := 7) (off := 1) (ev f40) (ev f27) Try.underlying65 (by kernel_rfl) (by omega) (by omega) (by simp <;> omega) rfl),
      (by
        intro Lq aq wq kq hd hj hlo hhi Kq hK
        rw [if_pos (wanted_none rfl)]
        have f41 := hj.val 15 41 rfl rfl (by simp) rfl (hd ⟨15, .data⟩ (by simp) rfl)
        have f28 := hj.val 2 28 rfl rfl (by simp) rfl (hd ⟨2, .data⟩ (by simp) rfl)
        exact opIndexArr7 hK rfl (j := 1 + x * 7 + y) (sz := 1) (len := 7) (off := 1 + x * 7) (ev f41) (ev f28) Try.underlying64 (by kernel_rfl) (by omega) (by omega) (by simp <;> omega) rfl),
      (by
        intro Lq aq wq hd hj Kq hK
        rw [if_pos (wanted_none rfl)]
        have f42 := hj.val 16 42 rfl rfl (by simp) rfl (hd ⟨16, .data⟩ (by simp) rfl)
        obtain ⟨u38, f38, g38⟩ := hj.at_ 12 38 rfl rfl (by simp) (hd ⟨12, .data⟩ (by simp) rfl)
        have ho := g38.2 (Nat.le_refl _)
        have hxq : Ext None_ w wq := ((Ext.refl None_ w).drew.trans0 (hj.inv : Ext None_ w.drew wq))
        obtain ⟨s1, s2, s3⟩ := HFIN.out u38 wq hxq ho
        obtain ⟨A9, c9, e9, _⟩ := Own.slice ho
        exact opStoreC hK rfl (ev f42) (ev f38) (by rw [e9]; rfl) (by rw [e9]; rfl) (by kernel_rfl) s2 s3 trivial s1 ((Ext.refl _ _).setCell (.inl (.inr ⟨rfl, rfl⟩)) _)),
      trivial⟩ ?fin
    case fin =>
      intro vs wZ hI hg
      have HI : Hid (RLeftN w wZ M C g (takeN N x y i)) := Lib.hid hI
      clear hI hg
      simp only [putAll, Nat.reduceAdd, Nat.zero_add]
      simp only [Act.put, List.setIfInBounds_toArray, List.set_cons_succ, List.set_cons_zero]
      go_wp2_with fail
      go_ret
      exact ⟨rfl, HI.out⟩
end Go.Proofs.Ythjabbheobpoeaa
