/- Package meta, walked: read, Term, Vote, May. Written by gen_meta.py. -/
import Derived.Test.YtakcdmmniaipeaaFr2
import Derived.Test.YtakcdmmniaipeaaDisk17
import Derived.Test.YtakcdmmniaipeaaWire6
set_option linter.unusedVariables false
set_option linter.unusedSimpArgs false
namespace Go.Proofs.Ytakcdmmniaipeaa
open Go.RowKit B
structure Rec where
  age : Int
  term : Int
  vote : Int
def Rec.ok (r : Rec) : Prop := 1 ≤ r.age ∧ r.age < 1125899906842624 ∧ 0 ≤ r.term ∧ r.term ≤ 1099511627776 ∧ -1 ≤ r.vote ∧ r.vote < 7
instance (r : Rec) : Decidable r.ok := by unfold Rec.ok; infer_instance
/-- The numbers of a record. -/
def numsP (p : List Int) : Rec × RS := (⟨(NumR p ⟨0, 0, 0⟩).1, (NumR p (NumR p ⟨0, 0, 0⟩).2).1, (NumR p (NumR p (NumR p ⟨0, 0, 0⟩).2).2).1⟩, EndR p (NumR p (NumR p (NumR p ⟨0, 0, 0⟩).2).2).2)
/-- What a file holds. -/
def recF (l : List Int) : Option Rec := if (nextF l 0).2.2 = 0 then (if (numsP (nextF l 0).1).2.fe = 0 ∧ (numsP (nextF l 0).1).1.ok then some (numsP (nextF l 0).1).1 else none) else none
theorem recF_ok {l : List Int} {r : Rec} (h : recF l = some r) : r.ok := by
  unfold recF at h
  split at h
  · split at h
    · rename_i hk
      cases h
      exact hk.2
    · cases h
  · cases h
theorem byt_nil (n : Nat) : Byt ([] : List Int) ∧ ([] : List Int).length ≤ n := ⟨fun x hx => by simp at hx, by simp⟩
theorem body_byt {l : List Int} (h : Byt l) (k : Nat) : Byt (bodyOf (l.drop k)) ∧ (bodyOf (l.drop k)).length ≤ l.length := by
  refine ⟨fun x hx => ?_, ?_⟩
  · unfold bodyOf at hx
    exact h x (List.mem_of_mem_drop (List.mem_of_mem_take (List.mem_of_mem_drop hx)))
  · unfold bodyOf
    simp only [List.length_drop, List.length_take]
    omega
theorem next_byt {l : List Int} (h : Byt l) (k : Int) : Byt (nextF l k).1 ∧ (nextF l k).1.length ≤ l.length := by
  unfold nextF
  split
  · exact byt_nil _
  split
  · exact byt_nil _
  split
  · exact byt_nil _
  split
  · exact byt_nil _
  split
  · exact byt_nil _
  split
  · exact byt_nil _
  · exact body_byt h _
def MetaB (w : World) (gm g : Nat) (file : Int) (r : Rec) : Prop := Blk w gm #[.pointer (some ⟨g, 0, none⟩), .int .i64 file, .int .i64 r.age, .int .i64 r.term, .int .i64 r.vote] 82
def readP (g : Nat) (file : Int) (l : List Int) (w : World) (e : Ending) (w' : World) : Prop := (match recF l with | none => e = .returned (.pointer none) | some r => ∃ gm, e = .returned (.pointer (some ⟨gm, 0, none⟩)) ∧ MetaB w' gm g file r ∧ w.heap.size ≤ gm) ∧ Ext None_ w w'
set_option maxRecDepth 100000 in
set_option maxHeartbeats 8000000 in
theorem mread_any (g : Nat) (D : DS) (file : Int) (w : World) (h : IsD w g D) : Calls Try.prog 51 #[.pointer (some ⟨g, 0, none⟩), .int .i64 file] w (readP g file (readF D file) w) := by
  have HRE := Lib.hid (is_read h file)
  have hby := read_byt h file
  have hln := read_lenD h file
  obtain ⟨l, hl⟩ : ∃ l, l = readF D file := ⟨_, rfl⟩
  rw [← hl] at HRE hby hln ⊢
  clear hl h
  have HN := Lib.hid (fun (W : World) (A : Option Addr) (c : Nat) (hr : Row W A (B8 l)) (hc : l.length ≤ c) => next_any A c l 0 W hr hby hc hln)
  obtain ⟨hpb, hpl⟩ := next_byt hby 0
  have HRF : Hid (recF l = if (nextF l 0).2.2 = 0 then (if (numsP (nextF l 0).1).2.fe = 0 ∧ (numsP (nextF l 0).1).1.ok then some (numsP (nextF l 0).1).1 else none) else none) := Lib.hid rfl
  unfold nextP at HN
  obtain ⟨⟨p, n0, e0⟩, hq⟩ : ∃ q, q = nextF l 0 := ⟨_, rfl⟩
  rw [← hq] at HN hpb hpl HRF
  clear hq
  simp only at HN hpb hpl HRF
  have HPB := Lib.hid hpb
  have hpl2 : p.length ≤ 140737488355328 := by omega
  clear hby hpb
  by_cases he : e0 = 0
  · subst he
    have HRF2 : Hid (recF l = if (numsP p).2.fe = 0 ∧ (numsP p).1.ok then some (numsP p).1 else none) := Lib.hid (HRF.out.trans (if_pos rfl))
    clear HRF
    unfold numsP at HRF2
    obtain ⟨⟨a, s1⟩, h1⟩ : ∃ r, r = NumR p ⟨0, 0, 0⟩ := ⟨_, rfl⟩
    rw [← h1] at HRF2
    simp only at HRF2
    obtain ⟨⟨tt, s2⟩, h2⟩ : ∃ r, r = NumR p s1 := ⟨_, rfl⟩
    rw [← h2] at HRF2
    simp only at HRF2
    obtain ⟨⟨v, s3⟩, h3⟩ : ∃ r, r = NumR p s2 := ⟨_, rfl⟩
    rw [← h3] at HRF2
    simp only at HRF2
    obtain ⟨s4, h4⟩ : ∃ r, r = EndR p s3 := ⟨_, rfl⟩
    rw [← h4] at HRF2
    have H1 := Lib.hid h1
    have H2 := Lib.hid h2
    have H3 := Lib.hid h3
    have H4 := Lib.hid h4
    clear h1 h2 h3 h4
    go_enter Try.func51, Try.ntmps51
    go_wp2_with (first
      | (go_at_call 23; refine HRE.out.mono ?_; rintro e w1 ⟨A1, c1, rfl, hr1, _, _, hc1, hx1⟩; have HNX := Lib.hid (HN.out w1 A1 c1 hr1 hc1); have HX1 := Lib.hid hx1; clear hr1 hx1 HRE HN)
      | (go_at_call 71; refine HNX.out.mono ?_; rintro e w2 ⟨v2, rfl, ho2, hx2⟩; obtain ⟨A2, c2, rfl, hr2⟩ := own_sl ho2; have HR2 := Lib.hid hr2; have HX2 := Lib.hid (HX1.out.trans0 hx2); clear ho2 hx2 hr2 HNX HX1)
      | (go_at_call 73; refine (Read_any A2 c2 p _ HR2.out HPB.out hpl2).mono ?_; rintro e w3 ⟨gr, b, rfl, hrd, hg3, hb3, hx3⟩; have HRD := Lib.hid (hrd.ext0 (x0 w3 (.cells #[.pointer (some ⟨g, 0, none⟩), .int .i64 file, .int .i64 0, .int .i64 0, .int .i64 0] 82))); have HX3 := Lib.hid ((HX2.out.trans0 hx3).trans0 (x0 w3 (.cells #[.pointer (some ⟨g, 0, none⟩), .int .i64 file, .int .i64 0, .int .i64 0, .int .i64 0] 82))); have HSZ : Hid (gr < w3.heap.size ∧ b < w3.heap.size ∧ w.heap.size ≤ gr) := Lib.hid ⟨hrd.lt.1, hrd.lt.2.1, Nat.le_trans HX2.out.size hg3⟩; have HSW : Hid (w.heap.size ≤ w3.heap.size) := Lib.hid (HX2.out.trans0 hx3).size; have HB3 := Lib.hid (Blk.new w3 #[.pointer (some ⟨g, 0, none⟩), .int .i64 file, .int .i64 0, .int .i64 0, .int .i64 0] 82); clear hrd hg3 hb3 hx3 HX2 HR2)
      | (go_at_call 74; refine (Num_any gr b p ⟨0, 0, 0⟩ _ HRD.out).mono ?_; rw [← H1.out]; rintro e w5 ⟨rfl, hr, hx⟩; have hb5 := HB3.out.ext hx (fun e => by have := HSZ.out.1; omega); have m2 := hb5.cell 2; have mf := hb5.frozen 2; have HRD5 := Lib.hid (hr.ext ((Ext.refl (fun k => k = w3.heap.size) _).setCell (p := ⟨w3.heap.size, 2, none⟩) (Or.inl rfl) (.int .i64 a)) (fun e => by have := HSZ.out.1; omega) (fun e => by have := HSZ.out.2.1; omega)); have HB5 := Lib.hid (hb5.set 2 (.int .i64 a)); have HX5 := Lib.hid ((HX3.out.trans hx (fun k hk e => by have := HSZ.out.2.2; omega)).setCell (p := ⟨w3.heap.size, 2, none⟩) (Or.inr HSW.out) (.int .i64 a)); clear hr hx hb5 HRD HB3 HX3 H1)
      | (go_at_call 74; refine (Num_any gr b p s1 _ HRD5.out).mono ?_; rw [← H2.out]; rintro e w6 ⟨rfl, hr, hx⟩; have hb5 := HB5.out.ext hx (fun e => by have := HSZ.out.1; omega); have n3 := hb5.cell 3; have nf := hb5.frozen 3; have HRD6 := Lib.hid (hr.ext ((Ext.refl (fun k => k = w3.heap.size) _).setCell (p := ⟨w3.heap.size, 3, none⟩) (Or.inl rfl) (.int .i64 tt)) (fun e => by have := HSZ.out.1; omega) (fun e => by have := HSZ.out.2.1; omega)); have HB6 := Lib.hid (hb5.set 3 (.int .i64 tt)); have HX6 := Lib.hid ((HX5.out.trans hx (fun k hk e => by have := HSZ.out.2.2; omega)).setCell (p := ⟨w3.heap.size, 3, none⟩) (Or.inr HSW.out) (.int .i64 tt)); clear hr hx hb5 HRD5 HB5 HX5 H2)
      | (go_at_call 74; refine (Num_any gr b p s2 _ HRD6.out).mono ?_; rw [← H3.out]; rintro e w7 ⟨rfl, hr, hx⟩; have hb5 := HB6.out.ext hx (fun e => by have := HSZ.out.1; omega); have o4 := hb5.cell 4; have of := hb5.frozen 4; have HRD7 := Lib.hid (hr.ext ((Ext.refl (fun k => k = w3.heap.size) _).setCell (p := ⟨w3.heap.size, 4, none⟩) (Or.inl rfl) (.int .i64 v)) (fun e => by have := HSZ.out.1; omega) (fun e => by have := HSZ.out.2.1; omega)); have HB7 := Lib.hid (hb5.set 4 (.int .i64 v)); have HX7 := Lib.hid ((HX6.out.trans hx (fun k hk e => by have := HSZ.out.2.2; omega)).setCell (p := ⟨w3.heap.size, 4, none⟩) (Or.inr HSW.out) (.int .i64 v)); clear hr hx hb5 HRD6 HB6 HX6 H3))
    by_cases hf : s4.fe = 0
    · have hf0 : (s4.fe != 0) = false := by simp [hf]
      clear hf
      by_cases q0 : a < 1
      · refine (End_any gr b p s3 _ HRD7.out).mono ?_
        rw [← H4.out]
        rintro e w8 ⟨rfl, _, hx⟩
        have hb8 := HB7.out.ext hx (fun e => by have := HSZ.out.1; omega)
        have z2 := hb8.cell 2
        have z3 := hb8.cell 3
        have z4 := hb8.cell 4
        have HB8 := Lib.hid hb8
        have HX8 := Lib.hid (HX7.out.trans hx (fun k hk e => by have := HSZ.out.2.2; omega))
        clear hx hb8 HRD7 HB7 HX7 H4
        obtain ⟨fe, hfe⟩ : ∃ fe, fe = s4.fe := ⟨_, rfl⟩
        rw [← hfe] at HRF2 hf0 ⊢
        clear hfe
        go_wp2_with fail
        go_ret
        unfold readP
        rw [HRF2.out, if_neg (by rintro ⟨q0, q1⟩; simp only [Rec.ok] at q1; first | omega | (simp [q0] at hf0))]
        exact ⟨rfl, HX8.out⟩
      · skip
        by_cases q1 : 1125899906842624 ≤ a
        · refine (End_any gr b p s3 _ HRD7.out).mono ?_
          rw [← H4.out]
          rintro e w8 ⟨rfl, _, hx⟩
          have hb8 := HB7.out.ext hx (fun e => by have := HSZ.out.1; omega)
          have z2 := hb8.cell 2
          have z3 := hb8.cell 3
          have z4 := hb8.cell 4
          have HB8 := Lib.hid hb8
          have HX8 := Lib.hid (HX7.out.trans hx (fun k hk e => by have := HSZ.out.2.2; omega))
          clear hx hb8 HRD7 HB7 HX7 H4
          obtain ⟨fe, hfe⟩ : ∃ fe, fe = s4.fe := ⟨_, rfl⟩
          rw [← hfe] at HRF2 hf0 ⊢
          clear hfe
          go_wp2_with fail
          go_ret
          unfold readP
          rw [HRF2.out, if_neg (by rintro ⟨q0, q1⟩; simp only [Rec.ok] at q1; first | omega | (simp [q0] at hf0))]
          exact ⟨rfl, HX8.out⟩
        · skip
          by_cases q2 : tt < 0
          · refine (End_any gr b p s3 _ HRD7.out).mono ?_
            rw [← H4.out]
            rintro e w8 ⟨rfl, _, hx⟩
            have hb8 := HB7.out.ext hx (fun e => by have := HSZ.out.1; omega)
            have z2 := hb8.cell 2
            have z3 := hb8.cell 3
            have z4 := hb8.cell 4
            have HB8 := Lib.hid hb8
            have HX8 := Lib.hid (HX7.out.trans hx (fun k hk e => by have := HSZ.out.2.2; omega))
            clear hx hb8 HRD7 HB7 HX7 H4
            obtain ⟨fe, hfe⟩ : ∃ fe, fe = s4.fe := ⟨_, rfl⟩
            rw [← hfe] at HRF2 hf0 ⊢
            clear hfe
            go_wp2_with fail
            go_ret
            unfold readP
            rw [HRF2.out, if_neg (by rintro ⟨q0, q1⟩; simp only [Rec.ok] at q1; first | omega | (simp [q0] at hf0))]
            exact ⟨rfl, HX8.out⟩
          · skip
            by_cases q3 : 1099511627776 < tt
            · refine (End_any gr b p s3 _ HRD7.out).mono ?_
              rw [← H4.out]
              rintro e w8 ⟨rfl, _, hx⟩
              have hb8 := HB7.out.ext hx (fun e => by have := HSZ.out.1; omega)
              have z2 := hb8.cell 2
              have z3 := hb8.cell 3
              have z4 := hb8.cell 4
              have HB8 := Lib.hid hb8
              have HX8 := Lib.hid (HX7.out.trans hx (fun k hk e => by have := HSZ.out.2.2; omega))
              clear hx hb8 HRD7 HB7 HX7 H4
              obtain ⟨fe, hfe⟩ : ∃ fe, fe = s4.fe := ⟨_, rfl⟩
              rw [← hfe] at HRF2 hf0 ⊢
              clear hfe
              go_wp2_with fail
              go_ret
              unfold readP
              rw [HRF2.out, if_neg (by rintro ⟨q0, q1⟩; simp only [Rec.ok] at q1; first | omega | (simp [q0] at hf0))]
              exact ⟨rfl, HX8.out⟩
            · skip
              by_cases q4 : v < -1
              · refine (End_any gr b p s3 _ HRD7.out).mono ?_
                rw [← H4.out]
                rintro e w8 ⟨rfl, _, hx⟩
                have hb8 := HB7.out.ext hx (fun e => by have := HSZ.out.1; omega)
                have z2 := hb8.cell 2
                have z3 := hb8.cell 3
                have z4 := hb8.cell 4
                have HB8 := Lib.hid hb8
                have HX8 := Lib.hid (HX7.out.trans hx (fun k hk e => by have := HSZ.out.2.2; omega))
                clear hx hb8 HRD7 HB7 HX7 H4
                obtain ⟨fe, hfe⟩ : ∃ fe, fe = s4.fe := ⟨_, rfl⟩
                rw [← hfe] at HRF2 hf0 ⊢
                clear hfe
                go_wp2_with fail
                go_ret
                unfold readP
                rw [HRF2.out, if_neg (by rintro ⟨q0, q1⟩; simp only [Rec.ok] at q1; first | omega | (simp [q0] at hf0))]
                exact ⟨rfl, HX8.out⟩
              · skip
                by_cases q5 : 7 ≤ v
                · refine (End_any gr b p s3 _ HRD7.out).mono ?_
                  rw [← H4.out]
                  rintro e w8 ⟨rfl, _, hx⟩
                  have hb8 := HB7.out.ext hx (fun e => by have := HSZ.out.1; omega)
                  have z2 := hb8.cell 2
                  have z3 := hb8.cell 3
                  have z4 := hb8.cell 4
                  have HB8 := Lib.hid hb8
                  have HX8 := Lib.hid (HX7.out.trans hx (fun k hk e => by have := HSZ.out.2.2; omega))
                  clear hx hb8 HRD7 HB7 HX7 H4
                  obtain ⟨fe, hfe⟩ : ∃ fe, fe = s4.fe := ⟨_, rfl⟩
                  rw [← hfe] at HRF2 hf0 ⊢
                  clear hfe
                  go_wp2_with fail
                  go_ret
                  unfold readP
                  rw [HRF2.out, if_neg (by rintro ⟨q0, q1⟩; simp only [Rec.ok] at q1; first | omega | (simp [q0] at hf0))]
                  exact ⟨rfl, HX8.out⟩
                · skip
                  refine (End_any gr b p s3 _ HRD7.out).mono ?_
                  rw [← H4.out]
                  rintro e w8 ⟨rfl, _, hx⟩
                  have hb8 := HB7.out.ext hx (fun e => by have := HSZ.out.1; omega)
                  have z2 := hb8.cell 2
                  have z3 := hb8.cell 3
                  have z4 := hb8.cell 4
                  have HB8 := Lib.hid hb8
                  have HX8 := Lib.hid (HX7.out.trans hx (fun k hk e => by have := HSZ.out.2.2; omega))
                  clear hx hb8 HRD7 HB7 HX7 H4
                  obtain ⟨fe, hfe⟩ : ∃ fe, fe = s4.fe := ⟨_, rfl⟩
                  rw [← hfe] at HRF2 hf0 ⊢
                  clear hfe
                  go_wp2_with fail
                  go_ret
                  unfold readP
                  rw [HRF2.out, if_pos ⟨by simpa using hf0, by simp only [Rec.ok]; omega⟩]
                  exact ⟨⟨_, rfl, HB8.out, HSW.out⟩, HX8.out⟩
    · have hf0 : (s4.fe != 0) = true := by simp [hf]
      clear hf
      refine (End_any gr b p s3 _ HRD7.out).mono ?_
      rw [← H4.out]
      rintro e w8 ⟨rfl, _, hx⟩
      have hb8 := HB7.out.ext hx (fun e => by have := HSZ.out.1; omega)
      have z2 := hb8.cell 2
      have z3 := hb8.cell 3
      have z4 := hb8.cell 4
      have HB8 := Lib.hid hb8
      have HX8 := Lib.hid (HX7.out.trans hx (fun k hk e => by have := HSZ.out.2.2; omega))
      clear hx hb8 HRD7 HB7 HX7 H4
      obtain ⟨fe, hfe⟩ : ∃ fe, fe = s4.fe := ⟨_, rfl⟩
      rw [← hfe] at HRF2 hf0 ⊢
      clear hfe
      go_wp2_with fail
      go_ret
      unfold readP
      rw [HRF2.out, if_neg (by rintro ⟨q0, q1⟩; simp only [Rec.ok] at q1; first | omega | (simp [q0] at hf0))]
      exact ⟨rfl, HX8.out⟩
  · have HNO : Hid (recF l = none) := Lib.hid (HRF.out.trans (if_neg he))
    have hne : (e0 != 0) = true := by simp [he]
    clear HRF he
    go_enter Try.func51, Try.ntmps51
    go_wp2_with (first
      | (go_at_call 23; refine HRE.out.mono ?_; rintro e w1 ⟨A1, c1, rfl, hr1, _, _, hc1, hx1⟩; have HNX := Lib.hid (HN.out w1 A1 c1 hr1 hc1); have HX1 := Lib.hid hx1; clear hr1 hx1 HRE HN)
      | (go_at_call 71; refine HNX.out.mono ?_; rintro e w2 ⟨v2, rfl, ho2, hx2⟩; obtain ⟨A2, c2, rfl, hr2⟩ := own_sl ho2; have HX2 := Lib.hid (HX1.out.trans0 hx2); clear ho2 hx2 hr2 HNX HX1))
    go_ret
    unfold readP
    rw [HNO.out]
    exact ⟨rfl, HX2.out⟩
end Go.Proofs.Ytakcdmmniaipeaa
