/- Package wire, walked: the reader's lists and texts. -/
import Derived.Test.YteofjillmhfamaaWire3
import Derived.Lib.AppendStr
import Derived.Deep.RegionWith
import Derived.Laws.BytesArg
set_option linter.unusedVariables false
set_option linter.unusedSimpArgs false
namespace Go.Proofs.Yteofjillmhfamaa
open Go.RowKit B



theorem infoI64 : (Try.prog.info? 3).map (fun i => (i.zero, i.size, i.bytes)) = some (some (.int .i64 0), 1, 8) := by kernel_rfl
def I8 (l : List Int) : List Value := l.map (Value.int .i64)
theorem I8_length (l : List Int) : (I8 l).length = l.length := by simp [I8]
theorem I8_append (l m : List Int) : I8 (l ++ m) = I8 l ++ I8 m := by simp [I8]
theorem I8_one (l : List Int) : ∀ u ∈ I8 l, u.oneCell' = true := by
  intro u hu
  obtain ⟨x, _, rfl⟩ := List.mem_map.1 hu
  rfl
/-- A row of numbers of the call's own. -/
def OwnI (w : World) (ok : Nat → Prop) (v : Value) (l : List Int) : Prop := Own w 3 1 ok v l.length (I8 l)
theorem OwnI.mono {w : World} {ok ok1 : Nat → Prop} {v : Value} {l : List Int} (h : OwnI w ok v l) (hk : ∀ k, k < w.heap.size → ok k → ok1 k) : OwnI w ok1 v l := Own.mono h hk
theorem OwnI.ext {S : Nat → Prop} {w w1 : World} {ok : Nat → Prop} {v : Value} {l : List Int} (h : OwnI w ok v l) (he : Ext S w w1) (hn : ∀ k, v.ownBlock = some k → ¬ S k) : OwnI w1 ok v l := Own.ext h he hn
theorem OwnI.ext0 {w w1 : World} {ok : Nat → Prop} {v : Value} {l : List Int} (h : OwnI w ok v l) (he : Ext None_ w w1) : OwnI w1 ok v l := Own.ext0 h he
theorem OwnI.alloc {w : World} {ok : Nat → Prop} {v : Value} {l : List Int} (h : OwnI w ok v l) (o : Obj) : OwnI (w.alloc o) ok v l := Own.alloc h o
theorem OwnI.nil (w : World) (ok : Nat → Prop) : OwnI w ok (.slice none 0 0) [] := Own.nil _ _ _ _
theorem appI {w : World} {ops : Array Oper} {rest : List Oper} {o : Oper} {a : Act} {Q : Exit → Act → World → Prop} (hgd : o.guard = none) (s x : Operand)
    (ho : o.op = .call { callee := .builtin .append, args := #[s, x], argTypes := #[35, 35] })
    (v : Value) (l m : List Int) (A : Option Addr) (c : Nat) (hs : a.eval s = v) (hx : a.eval x = .slice A m.length c) {ok : Nat → Prop} (hown : OwnI w ok v l) (hnews : Row w A (I8 m))
    (hlen : (l.length + m.length) * 8 ≤ 225000000000000)
    (h : ∀ v' w', OwnI w' (From v w.heap.size) v' (l ++ m) → Ext (Of v) w w' → wpList Try.prog ops Q rest (a.put o.dst v') w') : wpList Try.prog ops Q (o :: rest) a w :=
  app hgd s x 35 ho 3 (.int .i64 0) 1 8 Try.underlying35 infoI64 rfl (by decide) (by decide) ok v l.length (I8 l) hs hown A m.length c (I8 m) hx (by rw [I8_length, Nat.mul_one]) hnews (I8_one _) (by omega)
    fun v' w' h1 h2 => h v' w' (by unfold OwnI; rw [I8_append, List.length_append]; exact h1) h2

theorem conv_string {P : Program} {w : World} {src dst e : TypeId} {A : Option Addr} {c : Nat} {l : List Int} (hs : P.underlying src = some (.slice e)) (he : P.underlying e = some (.int .u8)) (hd : P.underlying dst = some .string)
    (h : Row w A (B8 l)) : (convert src dst (.slice A l.length c)).run P w = .ok (.string (strOfNums l)) w := by
  rcases A with _ | ad
  · cases l with
    | nil => exact run_convert_bytes_nil w src e hs he 0 c dst hd
    | cons x l =>
      obtain ⟨ad, e, _⟩ := h 0 (.int .u8 x) rfl
      cases e
  · have hl : (loadCells ad l.length).run P w = .ok (l.map (Value.int .u8)).toArray w := by
      have := run_loadCells_list (P := P) w ad (l.map (Value.int .u8)) (fun j v hj => by
        obtain ⟨ad', e, hc⟩ := h j v hj
        cases e
        exact hc)
      simpa using this
    rw [run_convert_bytes_string w src dst e _ l.length c hs he hd, run_bytesToString w ad l.length c l hl, foldl_push_bytes]
    simp [strOfNums, ByteArray.empty, ByteArray.emptyWithCapacity]
    rfl
set_option maxRecDepth 100000 in
set_option maxHeartbeats 2000000 in
theorem Text_any (g b : Nat) (l : List Int) (s : RS) (most : Int) (w : World) (h : Rd w g b l s) :
    Calls Try.prog 38 #[.pointer (some ⟨g, 0, none⟩), .int .i64 most] w fun e w' => e = .returned (.string (strOfNums (TextR l most s).1)) ∧ Rd w' g b l (TextR l most s).2 ∧ Ext (fun k => k = g) w w' := by
  have hbd := h.bounds
  obtain ⟨hpos, hlen, hbyt⟩ := hbd
  have HBY := Lib.hid hbyt
  clear hbyt
  obtain ⟨A, c, ⟨c0, c1, c2, c3⟩, cf, _⟩ := h.cells
  have HR := Lib.hid h
  clear h
  have hnil : strOfNums [] = ⟨#[]⟩ := rfl
  unfold TextR
  by_cases hfe : s.fe = 0
  · rw [if_pos hfe]
    have hb := feT hfe
    have hcnt := fun W (hr : Rd W g b l s) => count_any g b l s s.pos most W hr hpos
    have hok := countR_ok l s.pos most s
    have hpos2 := countR_pos l s.pos most s hpos hpos
    generalize countR l s.pos most s = r at hcnt hok hpos2 ⊢
    obtain ⟨n, s1⟩ := r
    have HN := Lib.hid hcnt
    clear hcnt hfe
    simp only at hok hpos2 ⊢
    by_cases hf1 : s1.fe = 0
    · rw [if_pos hf1]
      have hb1 := feT hf1
      have hn0 : 0 ≤ n := (hok hf1).1
      clear hf1 hok
      by_cases hlong : (l.length : Int) - s1.pos < n
      · rw [if_pos hlong, hnil]
        go_enter Try.func38, Try.ntmps38
        go_wp2_with (first
          | (go_at_call 28; (with_reducible refine (good_any _ _ _ _ hb1).mono ?_); rintro e w3 ⟨rfl, hx1⟩; have hr1 := HR2.out.ext0 hx1; have HR3 := Lib.hid hr1; have HX3 : Hid (Ext (fun k => k = g) w w3) := Lib.hid (HX2.out.trans0 hx1); obtain ⟨A3, cc3, ⟨d30, d31, d32, d33⟩, df3, dl3, dr3⟩ := hr1.cells; have DR3 := Lib.hid dr3; clear hr1 hx1 dr3)
          | (go_at_call 28; (with_reducible refine (good_any _ _ _ _ hb).mono ?_); rintro e w1 ⟨rfl, hx1⟩; have hr1 := HR.out.ext0 hx1; have HR1 := Lib.hid hr1; have HX1 : Hid (Ext (fun k => k = g) w w1) := Lib.hid (hx1.mono (fun _ _ a => a.elim)); obtain ⟨A1, cc1, ⟨d0, d1, d2, d3⟩, df, dl, dr⟩ := hr1.cells; clear hr1 hx1 dr)
          | (go_at_call 43; refine (HN.out _ HR1.out).mono ?_; rintro e w2 ⟨rfl, hr2, hx2⟩; have HR2 := Lib.hid hr2; have HX2 : Hid (Ext (fun k => k = g) w w2) := Lib.hid (HX1.out.trans hx2 (fun _ _ a => a)); obtain ⟨A2, cc2, ⟨e0, e1, e2, e3⟩, ef, el, er⟩ := hr2.cells; clear hr2 hx2 er))
        go_quiet (fail)
        go_wp2_with (go_at_call 45; refine (fail_any g b l _ s.pos 3 _ (HR3.out.drewN _) hpos).mono ?_; rintro e w4 ⟨rfl, hr2, hx2⟩; have HR4 := Lib.hid hr2; have HX4 := Lib.hid hx2; clear hr2 hx2)
        go_ret
        exact ⟨rfl, HR4.out, (HX3.out.drewN _).trans HX4.out (fun _ _ a => a)⟩
      · rw [if_neg hlong]
        have hle : n ≤ (l.length : Int) - s1.pos := by omega
        clear hlong
        obtain ⟨m, rfl⟩ := Int.eq_ofNat_of_zero_le hn0
        have hfit : s1.pos + m ≤ l.length := by omega
        simp only [Int.toNat_natCast]
        obtain ⟨T, hT⟩ : ∃ T, T = (l.drop s1.pos).take m := ⟨_, rfl⟩
        have hTl : T.length = m := by rw [hT, List.length_take, List.length_drop]; omega
        have HT2 : Hid (((B8 l).take ((s1.pos + m) * 1)).drop (s1.pos * 1) = B8 T) := Lib.hid (by
          rw [hT, Nat.mul_one, Nat.mul_one, List.drop_take, show s1.pos + m - s1.pos = m by omega]; simp [B8, List.map_take, List.map_drop])
        rw [← hT]
        have HTL := Lib.hid hTl
        clear hT hTl
        have HS : ∀ W, Rd W g b l s1 → Hid (Rd (W.setCell ⟨g, 3, none⟩ (.int .i64 ((s1.pos : Int) + m))) g b l ⟨s1.pos + m, s1.fa, s1.fe⟩) := fun W hr => by
          obtain ⟨A, c, h1, h2, h3, h4, h5, h6, h7, h8⟩ := hr
          have hx := (Ext.refl (fun k => k = g) W).setCell (p := ⟨g, 3, none⟩) (.inl rfl) (.int .i64 ((s1.pos : Int) + m))
          exact Lib.hid ⟨A, c, h1.set 3 _, h2, h3.ext hx (fun ad e' => by rw [h4 ad e']; exact h5.1), h4, ⟨h5.1, Nat.lt_of_lt_of_le h5.2 hx.size⟩, h6, by simp only; omega, h8⟩
        have HSS := Lib.hid HS
        clear HS
        go_enter Try.func38, Try.ntmps38
        go_wp2_with (first
          | (go_at_call 28; (with_reducible refine (good_any _ _ _ _ hb1).mono ?_); rintro e w3 ⟨rfl, hx1⟩; have hr1 := HR2.out.ext0 hx1; have HR3 := Lib.hid hr1; have HX3 : Hid (Ext (fun k => k = g) w w3) := Lib.hid (HX2.out.trans0 hx1); obtain ⟨A3, cc3, ⟨d30, d31, d32, d33⟩, df3, dl3, dr3⟩ := hr1.cells; have DR3 := Lib.hid dr3; clear hr1 hx1 dr3)
          | (go_at_call 28; (with_reducible refine (good_any _ _ _ _ hb).mono ?_); rintro e w1 ⟨rfl, hx1⟩; have hr1 := HR.out.ext0 hx1; have HR1 := Lib.hid hr1; have HX1 : Hid (Ext (fun k => k = g) w w1) := Lib.hid (hx1.mono (fun _ _ a => a.elim)); obtain ⟨A1, cc1, ⟨d0, d1, d2, d3⟩, df, dl, dr⟩ := hr1.cells; clear hr1 hx1 dr)
          | (go_at_call 43; refine (HN.out _ HR1.out).mono ?_; rintro e w2 ⟨rfl, hr2, hx2⟩; have HR2 := Lib.hid hr2; have HX2 : Hid (Ext (fun k => k = g) w w2) := Lib.hid (HX1.out.trans hx2 (fun _ _ a => a)); obtain ⟨A2, cc2, ⟨e0, e1, e2, e3⟩, ef, el, er⟩ := hr2.cells; clear hr2 hx2 er))
        go_quiet (fail)
        go_wp2
        obtain ⟨A', hA', hcut⟩ := cut_lh (P := Try.prog) 23 5 1 Try.underlying23 infoU8 A3 l.length cc3 (s1.pos : Int) ((s1.pos : Int) + m) (by omega) (by omega) (by omega)
        have hrow : ∀ k, Row (w3.drewN k) A' (B8 T) := fun k => by
          have hA2 : A' = if cc3 = s1.pos then A3 else A3.map (·.add (s1.pos * 1)) := by rw [hA', Int.toNat_natCast]
          have := cut_row (hi := s1.pos + m) DR3.out hA2 (by rw [B8_length]; omega)
          rw [HT2.out] at this
          exact this.drewN k
        have hconv : ∀ k, (convert 23 9 (.slice A' m (cc3 - s1.pos))).run Try.prog (w3.drewN k) = .ok (.string (strOfNums T)) (w3.drewN k) := fun k => by
          have := conv_string (src := 23) (dst := 9) (e := 5) Try.underlying23 Try.underlying5 Try.underlying9 (c := cc3 - s1.pos) (hrow k)
          rwa [HTL.out] at this
        have hcut2 : ∀ W : World, (Instr.slice 23 (.slice A3 l.length cc3) (some (.int .i64 (s1.pos : Int))) (some (.int .i64 ((s1.pos : Int) + m))) none).run Try.prog W = .ok (.slice A' m (cc3 - s1.pos)) W := fun W => by
          rw [hcut W]
          congr 2
          omega
        clear hcut hA' hrow
        go_quiet (fail)
        clear hcut2 hconv
        go_wp2
        go_ret
        exact ⟨rfl, (HSS.out _ ((HR3.out.drewN _))).out, (HX3.out.drewN _).setCell (p := ⟨g, 3, none⟩) (.inl rfl) _⟩
    · rw [if_neg hf1, hnil]
      have hb1 := feF hf1
      clear hf1 hok
      go_enter Try.func38, Try.ntmps38
      go_wp2_with (first
          | (go_at_call 28; (with_reducible refine (good_any _ _ _ _ hb1).mono ?_); rintro e w3 ⟨rfl, hx1⟩; have hr1 := HR2.out.ext0 hx1; have HR3 := Lib.hid hr1; have HX3 : Hid (Ext (fun k => k = g) w w3) := Lib.hid (HX2.out.trans0 hx1); obtain ⟨A3, cc3, ⟨d30, d31, d32, d33⟩, df3, dl3, dr3⟩ := hr1.cells; have DR3 := Lib.hid dr3; clear hr1 hx1 dr3)
          | (go_at_call 28; (with_reducible refine (good_any _ _ _ _ hb).mono ?_); rintro e w1 ⟨rfl, hx1⟩; have hr1 := HR.out.ext0 hx1; have HR1 := Lib.hid hr1; have HX1 : Hid (Ext (fun k => k = g) w w1) := Lib.hid (hx1.mono (fun _ _ a => a.elim)); obtain ⟨A1, cc1, ⟨d0, d1, d2, d3⟩, df, dl, dr⟩ := hr1.cells; clear hr1 hx1 dr)
          | (go_at_call 43; refine (HN.out _ HR1.out).mono ?_; rintro e w2 ⟨rfl, hr2, hx2⟩; have HR2 := Lib.hid hr2; have HX2 : Hid (Ext (fun k => k = g) w w2) := Lib.hid (HX1.out.trans hx2 (fun _ _ a => a)); obtain ⟨A2, cc2, ⟨e0, e1, e2, e3⟩, ef, el, er⟩ := hr2.cells; clear hr2 hx2 er))
      go_ret
      exact ⟨rfl, HR3.out, HX3.out⟩
  · rw [if_neg hfe, hnil]
    have hb := feF hfe
    clear hfe
    go_enter Try.func38, Try.ntmps38
    go_wp2_with (go_at_call 28; (with_reducible refine (good_any _ _ _ _ hb).mono ?_); rintro e w1 ⟨rfl, hx1⟩; have HR1 := Lib.hid (HR.out.ext0 hx1); have HX1 : Hid (Ext (fun k => k = g) w w1) := Lib.hid (hx1.mono (fun _ _ a => a.elim)); clear hx1)
    go_ret
    exact ⟨rfl, HR1.out, HX1.out⟩
end Go.Proofs.Yteofjillmhfamaa
