/- append, make and Same where more than 2^47 bytes come out. Written by gen_fp.py. -/
import Derived.Test.YtghkgfeamijefaaBook
import Derived.Deep.DeepAppendWide
set_option linter.unusedVariables false
set_option linter.unusedSimpArgs false
namespace Go.Proofs.Ytghkgfeamijefaa
open Go.RowKit B
/-- append to a row of one's own, up to 2^48 bytes and the growth's share. -/
theorem appW {P : Program} {w : World} {ops : Array Oper} {rest : List Oper} {o : Oper} {a : Act} {Q : Exit → Act → World → Prop} (hgd : o.guard = none) (s x : Operand) (t : TypeId)
    (ho : o.op = .call { callee := .builtin .append, args := #[s, x], argTypes := #[t, t] })
    (e : TypeId) (z : Value) (size bytes : Nat) (ht : P.underlying t = some (.slice e)) (hinfo : (P.info? e).map (fun i => (i.zero, i.size, i.bytes)) = some (some z, size, bytes)) (hzs : z.cells.size = size) (hsz : 0 < size) (hb0 : 0 < bytes)
    (ok : Nat → Prop) (v : Value) (n : Nat) (xs : List Value) (hs : a.eval s = v) (hown : Own w e size ok v n xs)
    (A : Option Addr) (m c : Nat) (news : List Value) (hx : a.eval x = .slice A m c) (hl : news.length = m * size) (hnews : Row w A news) (h1 : ∀ u ∈ news, u.oneCell' = true)
    (hbytes : ((n + m) + (n + m) / 4 + 192) * bytes ≤ 281474976710656)
    (h : ∀ v' w', Own w' e size (fun k => v.ownBlock = some k ∨ w.heap.size ≤ k) v' (n + m) (xs ++ news) → Ext (fun k => v.ownBlock = some k) w w' → wpList P ops Q rest (a.put o.dst v') w') : wpList P ops Q (o :: rest) a w := by
  obtain ⟨i0, hi, hzz⟩ := Option.map_eq_some_iff.1 hinfo
  simp only [Prod.mk.injEq] at hzz
  obtain ⟨hz0, hz1, hz2⟩ := hzz
  have hlen : n + m ≤ 281474976710656 := Nat.le_trans (Nat.le_trans (by omega : n + m ≤ (n + m) + (n + m) / 4 + 192) (Nat.le_mul_of_pos_right _ hb0)) hbytes
  cases A with
  | none =>
    have hn : news = [] := by
      cases news with
      | nil => rfl
      | cons u r =>
        obtain ⟨ad, e, _⟩ := hnews 0 u rfl
        cases e
    subst hn
    have hm : m = 0 := by
      rcases Nat.eq_zero_or_pos m with hm | hm
      · exact hm
      · have := Nat.mul_pos hm hsz
        simp at hl
        omega
    subst hm
    refine wpList_plain hgd fun K hK => ?_
    have hrun : (Builtin.append_ #[t, t] o.type #[v, .slice none 0 c]).run P w = .ok v w := by
      rcases hown.own.2 with ⟨rfl, rfl⟩ | ⟨g, cap, cur, rfl, _, _, hnc, _⟩
      · simp [Builtin.append_, run_underlying ht, sizeOf, typeInfo, hi, Builtin.lenOf, Builtin.firstCells]
      · simp [Builtin.append_, run_underlying ht, sizeOf, typeInfo, hi, Builtin.lenOf, Builtin.firstCells, hnc, storeCells]
    unfold Oper.wp
    simp [execOp, ho, resolve, invoke, builtin, hs, hx, hrun, Result.andThen]
    exact hK _ _ (h v w (by simpa using hown.mono1) (Ext.refl _ _))
  | some ad =>
    have hnews' : ∀ j u, news[j]? = some u → w.cell? (ad.add j) = some u := fun j u hj => by
      obtain ⟨ad', e, hc⟩ := hnews j u hj
      cases e
      exact hc
    obtain ⟨v', w', hr, h2, h3, h4⟩ := run_append_own_wide (P := P) w 0 t o.type e i0 z size bytes ht hi hz0 hz1 hz2 hzs hsz v n xs hown.own ad m c news hl hnews' h1 (by simp only [maxLen]; omega) hbytes (Nat.zero_le _)
    have hl' : news.length = m * i0.size := by rw [hz1]; exact hl
    have hat : v'.ownBlock = v.ownBlock ∨ v'.ownBlock = some w.heap.size := by
      rcases hown.own.2 with ⟨hv, hn0⟩ | ⟨g, cap, cur, hv, _, hg, hnc, hcm, hcs, _⟩
      · subst hv
        by_cases hm0 : m = 0
        · rw [h4.2 ⟨rfl, hm0⟩]
          exact .inl rfl
        · have hr2 := run_append_nil (P := P) w t o.type e i0 z ht hi hz0 ad m c news hl' hnews' (by omega) (by omega) (by
            rw [hz2]
            exact Nat.le_trans (Nat.mul_le_mul_right _ (by omega)) hbytes)
          rw [hr2] at hr
          injection hr with hv _
          rw [← hv]
          exact .inr rfl
      · subst hv
        by_cases hroom : n + m ≤ cap
        · have hr2 := run_append_room (P := P) w t o.type e i0 ht hi g n cap cur hg ad m c news hl' hnews' h1 hroom (by rw [hl', hcs, hz1, ← Nat.add_mul]; exact Nat.mul_le_mul_right _ hroom)
          rw [hr2] at hr
          injection hr with hv _
          rw [← hv]
          exact .inl rfl
        · have hr2 := run_append_grow (P := P) w t o.type e i0 z ht hi hz0 ⟨g, 0, none⟩ n cap xs (by rw [hz1]; exact hown.own.1) (hown.own.cells (g := g) rfl) ad m c news hl' hnews' (by omega) (by omega) (growslice_fits_wide (by omega) (by rw [hz2]; exact hbytes))
          rw [hr2] at hr
          injection hr with hv _
          rw [← hv]
          exact .inr rfl
    refine wpList_plain hgd fun K hK => ?_
    unfold Oper.wp execOp
    simp only [ho, resolve, invoke, builtin, Sem.run_bind, Sem.run_pure, Result.andThen_ok, List.map_toArray, List.map_cons, List.map_nil, hs, hx, hr]
    refine hK _ _ (h v' w' ⟨h2, fun k hk => ?_⟩ ((Ext.refl _ _).grown h3 (fun k hk => .inl hk)))
    rcases hat with hat | hat
    · exact .inl (hat ▸ hk)
    · rw [hat] at hk
      cases hk
      exact .inr (Nat.le_refl _)
theorem appW8 {w : World} {ops : Array Oper} {rest : List Oper} {o : Oper} {a : Act} {Q : Exit → Act → World → Prop} (hgd : o.guard = none) (s x : Operand)
    (ho : o.op = .call { callee := .builtin .append, args := #[s, x], argTypes := #[22, 22] })
    (v : Value) (l m : List Int) (A : Option Addr) (c : Nat) (hs : a.eval s = v) (hx : a.eval x = .slice A m.length c) {ok : Nat → Prop} (hown : OwnB w ok v l) (hnews : Row w A (B8 m))
    (hlen : l.length + m.length ≤ 225000000000000)
    (h : ∀ v' w', OwnB w' (From v w.heap.size) v' (l ++ m) → Ext (Of v) w w' → wpList Try.prog ops Q rest (a.put o.dst v') w') : wpList Try.prog ops Q (o :: rest) a w :=
  appW hgd s x 22 ho 5 (.int .u8 0) 1 1 Try.underlying22 infoU8 rfl (by decide) (by decide) ok v l.length (B8 l) hs hown A m.length c (B8 m) hx (by rw [B8_length, Nat.mul_one]) hnews (B8_one _) (by omega)
    fun v' w' h1 h2 => h v' w' (by unfold OwnB; rw [B8_append, List.length_append]; exact h1) h2
theorem mkW0 (n : Nat) (hn : n ≤ 281474976710656) : (∀ W : World, (Instr.makeSlice 22 (.int .i64 0) (.int .i64 (n : Int))).run Try.prog W = .ok (.slice (some ⟨W.heap.size, 0, none⟩) 0 n) (W.alloc (.cells (madeCells (Value.int .u8 0).cells n) 5))) ∧ ∀ W : World, OwnB (W.alloc (.cells (madeCells #[Value.int .u8 0] n) 5)) (fun k => k = W.heap.size) (.slice (some ⟨W.heap.size, 0, none⟩) 0 n) [] := by
  obtain ⟨i0, hi, hz0, hz1, hz2⟩ := info_parts infoU8
  refine ⟨fun W => ?_, fun W => Own.made W _ _ (by simp only [maxLen]; omega) (by simp [size_madeCells])⟩
  have hr := run_make (P := Try.prog) W 22 5 i0 (.int .u8 0) Try.underlying22 hi hz0 .i64 .i64 0 (n : Int) (by omega) (by omega) (by rw [hz2]; omega) (by omega)
  rw [hz1, show ((n : Int)).toNat = n by omega, Nat.mul_one] at hr
  exact hr
set_option maxRecDepth 100000 in
theorem sameW_any (A1 : Option Addr) (c1 : Nat) (l : List Int) (A2 : Option Addr) (c2 : Nat) (m : List Int) (w : World) (h1 : Row w A1 (B8 l)) (h2 : Row w A2 (B8 m)) (hl : l.length ≤ 200000000000000) (hm : m.length ≤ 200000000000000) :
    Calls Try.prog 25 #[.slice A1 l.length c1, .slice A2 m.length c2] w fun e w' => e = .returned (.bool (decide (l = m))) ∧ Ext None_ w w' := by
  have H1 := Lib.hid h1
  have H2 := Lib.hid h2
  clear h1 h2
  by_cases hlm : l.length = m.length
  · go_enter Try.func25, Try.ntmps25
    have hb : ((l.length : Int) != m.length) = false := by simp [hlm]
    have hb' : ((l.length : Int) == m.length) = true := by simp [hlm]
    have HLM := Lib.hid hlm
    clear hlm
    go_wp2
    go_loopw [5] (fun v5 wr => ∃ i : Nat, v5 = .int .i64 i ∧ i ≤ l.length ∧ Hid (l.take i = m.take i) ∧ Hid (Ext None_ w wr)) (fun v5 _ => l.length - (intOf v5).toNat)
    case atStart => exact ⟨0, rfl, by omega, Lib.hid (by simp), Lib.hid (Ext.refl _ _)⟩
    case round =>
      obtain ⟨i, rfl, hi, ht, hx⟩ := hrel
      by_cases hlt : i < l.length
      · have hltm : i < m.length := by have := HLM.out; omega
        obtain ⟨x, hxe⟩ : ∃ x, x = l[i] := ⟨_, rfl⟩
        obtain ⟨y, hye⟩ : ∃ y, y = m[i] := ⟨_, rfl⟩
        obtain ⟨a1, rfl, hc1⟩ := H1.out i (.int .u8 x) (by simp [B8, hxe])
        obtain ⟨a2, rfl, hc2⟩ := H2.out i (.int .u8 y) (by simp [B8, hye])
        have hd1 := hx.out.cell hc1 (fun a => a)
        have hd2 := hx.out.cell hc2 (fun a => a)
        clear hc1 hc2
        by_cases hxy : x = y
        · have HN : Hid (l.take (i + 1) = m.take (i + 1)) := Lib.hid (by
            rw [List.take_succ_eq_append_getElem hlt, List.take_succ_eq_append_getElem hltm, ← hxe, ← hye, ht.out, hxy])
          have hb2 : (x != y) = false := by simp [hxy]
          have hb3 : (x == y) = true := by simp [hxy]
          clear hxy hxe hye
          go_wp2
          go_quiet (fail)
          go_wp2
          go_roundw
          case rel => exact ⟨i + 1, by go_num, by omega, HN, Lib.hid (hx.out.drewN _)⟩
          case measure => simp [intOf]; omega
        · have HN : Hid (decide (l = m) = false) := Lib.hid (by
            rw [decide_eq_false_iff_not]
            intro e
            apply hxy
            rw [hxe, hye]
            simp [e])
          have hb2 : (x != y) = true := by simp [hxy]
          have hb3 : (x == y) = false := by simp [hxy]
          clear hxy hxe hye
          go_wp2
          go_quiet (fail)
          go_wp2
          go_ret
          exact ⟨by rw [HN.out]; rfl, hx.out.drewN _⟩
      · have he : i = l.length := by omega
        have HN : Hid (decide (l = m) = true) := Lib.hid (by
          rw [decide_eq_true_iff]
          have h := ht.out
          rw [he, List.take_length, HLM.out, List.take_length] at h
          exact h)
        subst he
        go_wp2
        go_ret
        exact ⟨by rw [HN.out]; rfl, hx.out⟩
  · have hn : decide (l = m) = false := by
      rw [decide_eq_false_iff_not]
      intro e
      exact hlm (by rw [e])
    rw [hn]
    have hb : ((l.length : Int) != m.length) = true := by simp; omega
    have hb' : ((l.length : Int) == m.length) = false := by simp; omega
    clear hlm hn
    go_enter Try.func25, Try.ntmps25
    go_wp2
    go_ret
    exact ⟨rfl, Ext.refl _ _⟩
end Go.Proofs.Ytghkgfeamijefaa
