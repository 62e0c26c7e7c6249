/- Chapter 3's statements, walked: WireBack. Written by gen_wback.py. -/
import Derived.Test.YtmobdofkiddfhaaPure4
import Derived.Test.YtmobdofkiddfhaaWWrites
set_option linter.unusedVariables false
set_option linter.unusedSimpArgs false
namespace Go.Proofs.Ytmobdofkiddfhaa
open Go.RowKit B
abbrev IT := Item × Option Addr × Nat
def flatI (its : List IT) : List Int := its.flatMap fun q => encI q.1
theorem flatI_snoc (its : List IT) (i : Nat) (h : i < its.length) : flatI (its.take (i + 1)) = flatI (its.take i) ++ encI its[i].1 := by
  unfold flatI
  rw [List.take_succ_eq_append_getElem h, List.flatMap_append]
  simp
theorem flatI_split (its : List IT) (i : Nat) (h : i < its.length) (tail : List Int) : (flatI its ++ tail).drop (flatI (its.take i)).length = encI its[i].1 ++ (flatI (its.drop (i + 1)) ++ tail) := by
  have e0 := List.take_append_drop i its
  rw [List.drop_eq_getElem_cons h] at e0
  have e : flatI its = flatI (its.take i) ++ (encI its[i].1 ++ flatI (its.drop (i + 1))) := by
    have h2 := congrArg flatI e0
    unfold flatI at h2 ⊢
    rw [List.flatMap_append, List.flatMap_cons] at h2
    exact h2.symm
  rw [e, List.append_assoc, List.drop_left, List.append_assoc]
theorem flatI_len (its : List IT) (hi : ∀ q ∈ its, q.1.l.length ≤ 1048576 ∧ q.1.s.size ≤ 1048576) : (flatI its).length ≤ 11000000 * its.length := by
  induction its with
  | nil => simp [flatI]
  | cons q its ih =>
    have := encI_len q.1 (hi q (by simp)).1 (hi q (by simp)).2
    have h2 := ih (fun p hp => hi p (by simp [hp]))
    have e : flatI (q :: its) = encI q.1 ++ flatI its := by simp [flatI]
    rw [e, List.length_append, List.length_cons]
    omega
theorem flatI_byt (its : List IT) (hi : ∀ q ∈ its, Byt (encI q.1)) : Byt (flatI its) := fun n hn => by
  obtain ⟨q, hq, hn⟩ := List.mem_flatMap.1 hn
  exact hi q hq n hn
theorem Its.take {w : World} {a : Option Addr} {its : List IT} (h : Its w a its) (n : Nat) : Its w (a.map (·.add 0)) (its.take n) := fun i q hi => by
  rw [List.getElem?_take] at hi
  split at hi
  · obtain ⟨ad, rfl, hc, hok⟩ := h i q hi
    refine ⟨ad.add 0, rfl, ?_, hok⟩
    simp only [B.add_add, Nat.zero_add]
    exact hc
  · cases hi
theorem Its.mem {w : World} {a : Option Addr} {its : List IT} (h : Its w a its) : ∀ q ∈ its, ItOk w q.1 q.2.1 q.2.2 := fun q hq => by
  obtain ⟨i, hi⟩ := List.getElem?_of_mem hq
  obtain ⟨_, _, _, hok⟩ := h i q hi
  exact hok
theorem infoIt : (Try.prog.info? 37).map (fun i => (i.zero, i.size, i.bytes)) = some (some (.agg #[.int .i64 0, .int .i64 0, .int .i64 0, .slice none 0 0, .string ByteArray.empty, .bool false]), 6, 72) := by kernel_rfl
set_option maxRecDepth 100000 in
set_option maxHeartbeats 8000000 in
theorem wireBack_any (its : List IT) {a : Option Addr} {cap : Nat} (t : List Int) {A : Option Addr} {c : Nat} {w : World} (hits : Its w a its) (hcap : its.length ≤ cap) (hcl : cap ≤ 1048576) (hrow : Row w A (B8 t)) (hb : Byt t) (hc : t.length ≤ c) (hlen : c ≤ 1048576) :
    Calls Try.prog 7 #[.slice a its.length cap, .slice A t.length c] w fun e w' => e = .returned (.bool true) ∧ Ext None_ w w' := by
  have HROW := Lib.hid hrow
  have HBY := Lib.hid hb
  have hl : t.length ≤ 1048576 := by omega
  have hil : its.length ≤ 1048576 := by omega
  clear hrow hlen hb
  by_cases h100 : 100 < its.length
  · obtain ⟨A', hA', hcut⟩ := cut_h (P := Try.prog) 31 37 6 Try.underlying31 infoIt a its.length cap 100 (by omega) (by omega)
    obtain ⟨its2, hi2⟩ : ∃ q : List IT, q = its.take 100 := ⟨_, rfl⟩
    have hl2 : its2.length = 100 := by rw [hi2, List.length_take]; omega
    rw [show (100 : Int).toNat = its2.length from hl2.symm] at hcut
    have hits2 : Its w A' its2 := by
      rw [hA', if_neg (by omega), hi2]
      exact hits.take 100
    have hle : its2.length ≤ 100 := by omega
    have hb100 : decide ((100 : Int) < (its.length : Int)) = true := by simp only [decide_eq_true_eq]; omega
    clear hits hi2 hA' hl2 h100
    go_enter Try.func7, Try.ntmps7
    have HITS : ∀ W, Ext None_ w W → Hid (Its W A' its2) := fun W hh => Lib.hid (hits2.ext hh (fun _ _ a => a))
    have HSZ : Hid (∀ q ∈ its2, q.1.l.length ≤ 1048576 ∧ q.1.s.size ≤ 1048576) := Lib.hid (fun q hq => ⟨(hits2.mem q hq).len, (hits2.mem q hq).str⟩)
    have HEB : Hid (∀ q ∈ its2, Byt (encI q.1)) := Lib.hid (fun q hq => byt_encI q.1 (hits2.mem q hq).n (hits2.mem q hq).ints (hits2.mem q hq).len (hits2.mem q hq).str)
    have HFAR : Hid (∀ q ∈ its2, ∀ ad, q.2.1 = some ad → 0 < q.1.l.length → ad.block < w.heap.size) := Lib.hid (fun q hq ad ha h0 => (hits2.mem q hq).row.lt (by rw [I8_length]; exact h0) ad ha)
    clear hits2
    go_wp2_with fail
    go_loopw [5, 6] (fun v5 v6 wr => ∃ (i : Nat), v6 = .int .i64 i ∧ i ≤ its2.length ∧ Hid (OwnB wr (fun k => w.heap.size ≤ k) v5 (flatI (its2.take i))) ∧ Hid (Ext None_ w wr)) (fun _ v6 _ => its2.length - (intOf v6).toNat)
    case atStart => exact ⟨0, by go_num, by omega, Lib.hid (OwnB.nil _ _), Lib.hid (Ext.refl _ _)⟩
    case round =>
      obtain ⟨i, rfl, hi, ho, hx⟩ := hrel
      obtain ⟨Ab, cb, rfl, hlb, hcb, rb⟩ := Own.slice ho.out
      have RB := Lib.hid rb
      clear rb
      have hF1 := flatI_len (its2.take i) (fun q hq => HSZ.out q (List.mem_of_mem_take hq))
      rw [List.length_take] at hF1
      by_cases hlt : i < its2.length
      · obtain ⟨q, ad, hq, ha, hcells, hok⟩ := (HITS _ hx.out).out.at_ hlt
        have hq2 : its2[i] = q := by rw [List.getElem?_eq_getElem hlt] at hq; exact Option.some.inj hq
        subst ha
        obtain ⟨c0, c1, c2, c3, c4, c5⟩ := hcells
        have HOK := Lib.hid hok
        have HQ := Lib.hid hq2
        clear hok hq hq2
        go_wp2_with fail
        refine (putI_any Ab cb (flatI (its2.take i)) q.1 q.2.1 q.2.2 _ RB.out HOK.out (by omega)).mono ?_
        rintro e w2 ⟨v1, v2, rfl, o1, o2, x2⟩
        have O1 : Hid (OwnB w2 (fun k => w.heap.size ≤ k) v1 (flatI (its2.take (i + 1)))) := Lib.hid ((OwnB.mono o1 (fun k _ h => Nat.le_trans hx.out.size h)).eq (by rw [flatI_snoc its2 i hlt, HQ.out]))
        have X2 := Lib.hid (hx.out.trans0 x2)
        clear o1 o2 x2
        go_wp2_with fail
        exact ⟨⟨i + 1, by go_num, by omega, O1, X2⟩, by simp [intOf]; omega⟩
      · have hge : i = its2.length := by omega
        subst hge
        rw [List.take_length] at RB hlb hF1 ho
        obtain ⟨L, hL⟩ : ∃ L, L = flatI its2 := ⟨_, rfl⟩
        have HBL : Hid (Byt (L ++ t)) := Lib.hid (byt_append (by rw [hL]; exact flatI_byt its2 HEB.out) HBY.out)
        have HLL := Lib.hid hL
        rw [← hL] at RB hlb hF1 ho
        rw [List.take_length, ← hL]
        clear hL hlt
        go_wp2_with (at_builtin; refine app8 rfl (.tmp 33) (.tmp 34) rfl (.slice Ab L.length cb) L t A c rfl rfl ho.out (HROW.out.ext0 hx.out) (by omega) ?_; intro v6 w6 o6 x6; have O6 := Lib.hid (OwnB.late ho.out (hx.out.size) o6); have X6 : Hid (Ext None_ w w6) := Lib.hid (ext_late ho.out (fun k h => h) hx.out x6); obtain ⟨A6, c6, rfl, hc6, _, r6⟩ := Own.slice O6.out; have R6 := Lib.hid r6; clear o6 x6 r6)
        have RA := Read_any A6 c6 (L ++ t) _ R6.out HBL.out (by rw [List.length_append]; omega)
        rw [List.length_append] at RA
        refine RA.mono ?_
        clear RA
        rintro e w7 ⟨g, g0, rfl, r7, hg, hg0, x7⟩
        have hgs : w.heap.size ≤ g := Nat.le_trans X6.out.size hg
        have X7 := Lib.hid (X6.out.trans0 x7)
        have R7 := Lib.hid r7
        clear r7 x7 O6 R6
        go_wp2_with fail
        go_loopw [9] (fun v9 wr => ∃ j : Nat, v9 = .int .i64 j ∧ j ≤ its2.length ∧ Hid (Rd wr g g0 (L ++ t) ⟨(flatI (its2.take j)).length, 0, 0⟩) ∧ Hid (Ext None_ w wr)) (fun v9 _ => its2.length - (intOf v9).toNat)
        case atStart => exact ⟨0, by go_num, by omega, R7, X7⟩
        case round =>
          obtain ⟨j, rfl, hj, hr, hx8⟩ := hrel
          by_cases hlt : j < its2.length
          · obtain ⟨q, ad, hq, ha, hcells, hok⟩ := (HITS _ hx8.out).out.at_ hlt
            have hq2 : its2[j] = q := by rw [List.getElem?_eq_getElem hlt] at hq; exact Option.some.inj hq
            subst ha
            obtain ⟨c0, c1, c2, c3, c4, c5⟩ := hcells
            have HOK := Lib.hid hok
            have HLAW := Lib.hid (back_law (L ++ t) q.1 ⟨(flatI (its2.take j)).length, 0, 0⟩ _ rfl hok.n hok.ints hok.len hok.str (by rw [HLL.out, ← hq2]; exact flatI_split its2 j hlt t))
            have HST : Hid ((flatI (its2.take j)).length + (encI q.1).length = (flatI (its2.take (j + 1))).length) := Lib.hid (by rw [flatI_snoc its2 j hlt, List.length_append, hq2])
            have HF := Lib.hid (HFAR.out q (List.mem_of_getElem? hq))
            clear hok hq hq2
            go_wp2_with fail
            refine (back_any g g0 (L ++ t) _ q.1 q.2.1 q.2.2 _ hr.out HOK.out (by rw [List.length_append]; omega) (fun ad ha h0 e => by have := HF.out ad ha h0; omega)).mono ?_
            rw [HLAW.out.1, HLAW.out.2, HST.out]
            rintro e w9 ⟨rfl, r9, x9⟩
            have R9 := Lib.hid r9
            have X9 : Hid (Ext None_ w w9) := Lib.hid (hx8.out.trans x9 (fun k hk (e : k = g) => by omega))
            clear r9 x9
            obtain ⟨Ar, cr, ⟨d0, d1, d2, d3⟩, df, _⟩ := R9.out.cells
            go_wp2_with fail
            refine (good_any _ _ true _ rfl).mono ?_
            rintro e w10 ⟨rfl, x10⟩
            have R10 := Lib.hid (R9.out.ext0 x10)
            have X10 := Lib.hid (X9.out.trans0 x10)
            clear x10
            go_wp2_with fail
            exact ⟨⟨j + 1, by go_num, by omega, R10, X10⟩, by simp [intOf]; omega⟩
          · have hge : j = its2.length := by omega
            subst hge
            have hr2 : Hid (Rd wr g g0 (L ++ t) ⟨L.length, 0, 0⟩) := Lib.hid (by have := hr.out; rw [List.take_length, ← HLL.out] at this; exact this)
            clear hr hlt
            go_wp2_with fail
            refine (Next_any g g0 (L ++ t) _ _ hr2.out).mono ?_
            rintro e w9 ⟨rfl, rfl⟩
            go_wp2_with fail
            refine (End_any g g0 (L ++ t) _ _ hr2.out).mono ?_
            rintro e w10 ⟨rfl, r10, x10⟩
            have X10 : Hid (Ext None_ w w10) := Lib.hid (hx8.out.trans x10 (fun k hk (e : k = g) => by omega))
            by_cases ht : t.length = 0
            · have htb : ((t.length : Int) == 0) = true := by simp only [beq_iff_eq]; omega
              have hE : EndR (L ++ t) ⟨L.length, 0, 0⟩ = ⟨L.length, 0, 0⟩ := by unfold EndR; rw [if_neg (by simp only [List.length_append]; omega)]
              rw [hE]
              clear r10 x10 hE
              go_wp2_with fail
              refine (wireRuns_any _).mono ?_
              rintro e w11 ⟨rfl, x11⟩
              have X11 := Lib.hid (X10.out.trans0 x11)
              clear x11
              go_wp2_with fail
              go_ret
              exact ⟨rfl, X11.out⟩
            · have htb : ((t.length : Int) == 0) = false := by simp only [beq_eq_false_iff_ne, ne_eq]; omega
              have hE : EndR (L ++ t) ⟨L.length, 0, 0⟩ = ⟨L.length, L.length, 5⟩ := by unfold EndR; rw [if_pos (by simp only [List.length_append]; exact ⟨trivial, by omega⟩)]
              rw [hE] at r10 ⊢
              have R10 := Lib.hid r10
              clear r10 x10 hE
              obtain ⟨Ar, cr, ⟨d0, d1, d2, d3⟩, df, _⟩ := R10.out.cells
              go_wp2_with fail
              refine (where_any _ _ _).mono ?_
              rintro e w11 ⟨rfl, x11⟩
              have X11 := Lib.hid (X10.out.trans0 x11)
              clear x11
              go_wp2_with fail
              refine (wireRuns_any _).mono ?_
              rintro e w12 ⟨rfl, x12⟩
              have X12 := Lib.hid (X11.out.trans0 x12)
              clear x12
              go_wp2_with fail
              go_ret
              exact ⟨rfl, X12.out⟩
  · obtain ⟨its2, hi2⟩ : ∃ q : List IT, q = its := ⟨_, rfl⟩
    obtain ⟨A', hA'⟩ : ∃ q, q = a := ⟨_, rfl⟩
    subst hi2 hA'
    have hits2 := hits
    have hle : its2.length ≤ 100 := by omega
    have hb100 : decide ((100 : Int) < (its2.length : Int)) = false := by simp only [decide_eq_false_iff_not]; omega
    clear hits h100
    go_enter Try.func7, Try.ntmps7
    have HITS : ∀ W, Ext None_ w W → Hid (Its W A' its2) := fun W hh => Lib.hid (hits2.ext hh (fun _ _ a => a))
    have HSZ : Hid (∀ q ∈ its2, q.1.l.length ≤ 1048576 ∧ q.1.s.size ≤ 1048576) := Lib.hid (fun q hq => ⟨(hits2.mem q hq).len, (hits2.mem q hq).str⟩)
    have HEB : Hid (∀ q ∈ its2, Byt (encI q.1)) := Lib.hid (fun q hq => byt_encI q.1 (hits2.mem q hq).n (hits2.mem q hq).ints (hits2.mem q hq).len (hits2.mem q hq).str)
    have HFAR : Hid (∀ q ∈ its2, ∀ ad, q.2.1 = some ad → 0 < q.1.l.length → ad.block < w.heap.size) := Lib.hid (fun q hq ad ha h0 => (hits2.mem q hq).row.lt (by rw [I8_length]; exact h0) ad ha)
    clear hits2
    go_wp2_with fail
    go_loopw [5, 6] (fun v5 v6 wr => ∃ (i : Nat), v6 = .int .i64 i ∧ i ≤ its2.length ∧ Hid (OwnB wr (fun k => w.heap.size ≤ k) v5 (flatI (its2.take i))) ∧ Hid (Ext None_ w wr)) (fun _ v6 _ => its2.length - (intOf v6).toNat)
    case atStart => exact ⟨0, by go_num, by omega, Lib.hid (OwnB.nil _ _), Lib.hid (Ext.refl _ _)⟩
    case round =>
      obtain ⟨i, rfl, hi, ho, hx⟩ := hrel
      obtain ⟨Ab, cb, rfl, hlb, hcb, rb⟩ := Own.slice ho.out
      have RB := Lib.hid rb
      clear rb
      have hF1 := flatI_len (its2.take i) (fun q hq => HSZ.out q (List.mem_of_mem_take hq))
      rw [List.length_take] at hF1
      by_cases hlt : i < its2.length
      · obtain ⟨q, ad, hq, ha, hcells, hok⟩ := (HITS _ hx.out).out.at_ hlt
        have hq2 : its2[i] = q := by rw [List.getElem?_eq_getElem hlt] at hq; exact Option.some.inj hq
        subst ha
        obtain ⟨c0, c1, c2, c3, c4, c5⟩ := hcells
        have HOK := Lib.hid hok
        have HQ := Lib.hid hq2
        clear hok hq hq2
        go_wp2_with fail
        refine (putI_any Ab cb (flatI (its2.take i)) q.1 q.2.1 q.2.2 _ RB.out HOK.out (by omega)).mono ?_
        rintro e w2 ⟨v1, v2, rfl, o1, o2, x2⟩
        have O1 : Hid (OwnB w2 (fun k => w.heap.size ≤ k) v1 (flatI (its2.take (i + 1)))) := Lib.hid ((OwnB.mono o1 (fun k _ h => Nat.le_trans hx.out.size h)).eq (by rw [flatI_snoc its2 i hlt, HQ.out]))
        have X2 := Lib.hid (hx.out.trans0 x2)
        clear o1 o2 x2
        go_wp2_with fail
        exact ⟨⟨i + 1, by go_num, by omega, O1, X2⟩, by simp [intOf]; omega⟩
      · have hge : i = its2.length := by omega
        subst hge
        rw [List.take_length] at RB hlb hF1 ho
        obtain ⟨L, hL⟩ : ∃ L, L = flatI its2 := ⟨_, rfl⟩
        have HBL : Hid (Byt (L ++ t)) := Lib.hid (byt_append (by rw [hL]; exact flatI_byt its2 HEB.out) HBY.out)
        have HLL := Lib.hid hL
        rw [← hL] at RB hlb hF1 ho
        rw [List.take_length, ← hL]
        clear hL hlt
        go_wp2_with (at_builtin; refine app8 rfl (.tmp 33) (.tmp 34) rfl (.slice Ab L.length cb) L t A c rfl rfl ho.out (HROW.out.ext0 hx.out) (by omega) ?_; intro v6 w6 o6 x6; have O6 := Lib.hid (OwnB.late ho.out (hx.out.size) o6); have X6 : Hid (Ext None_ w w6) := Lib.hid (ext_late ho.out (fun k h => h) hx.out x6); obtain ⟨A6, c6, rfl, hc6, _, r6⟩ := Own.slice O6.out; have R6 := Lib.hid r6; clear o6 x6 r6)
        have RA := Read_any A6 c6 (L ++ t) _ R6.out HBL.out (by rw [List.length_append]; omega)
        rw [List.length_append] at RA
        refine RA.mono ?_
        clear RA
        rintro e w7 ⟨g, g0, rfl, r7, hg, hg0, x7⟩
        have hgs : w.heap.size ≤ g := Nat.le_trans X6.out.size hg
        have X7 := Lib.hid (X6.out.trans0 x7)
        have R7 := Lib.hid r7
        clear r7 x7 O6 R6
        go_wp2_with fail
        go_loopw [9] (fun v9 wr => ∃ j : Nat, v9 = .int .i64 j ∧ j ≤ its2.length ∧ Hid (Rd wr g g0 (L ++ t) ⟨(flatI (its2.take j)).length, 0, 0⟩) ∧ Hid (Ext None_ w wr)) (fun v9 _ => its2.length - (intOf v9).toNat)
        case atStart => exact ⟨0, by go_num, by omega, R7, X7⟩
        case round =>
          obtain ⟨j, rfl, hj, hr, hx8⟩ := hrel
          by_cases hlt : j < its2.length
          · obtain ⟨q, ad, hq, ha, hcells, hok⟩ := (HITS _ hx8.out).out.at_ hlt
            have hq2 : its2[j] = q := by rw [List.getElem?_eq_getElem hlt] at hq; exact Option.some.inj hq
            subst ha
            obtain ⟨c0, c1, c2, c3, c4, c5⟩ := hcells
            have HOK := Lib.hid hok
            have HLAW := Lib.hid (back_law (L ++ t) q.1 ⟨(flatI (its2.take j)).length, 0, 0⟩ _ rfl hok.n hok.ints hok.len hok.str (by rw [HLL.out, ← hq2]; exact flatI_split its2 j hlt t))
            have HST : Hid ((flatI (its2.take j)).length + (encI q.1).length = (flatI (its2.take (j + 1))).length) := Lib.hid (by rw [flatI_snoc its2 j hlt, List.length_append, hq2])
            have HF := Lib.hid (HFAR.out q (List.mem_of_getElem? hq))
            clear hok hq hq2
            go_wp2_with fail
            refine (back_any g g0 (L ++ t) _ q.1 q.2.1 q.2.2 _ hr.out HOK.out (by rw [List.length_append]; omega) (fun ad ha h0 e => by have := HF.out ad ha h0; omega)).mono ?_
            rw [HLAW.out.1, HLAW.out.2, HST.out]
            rintro e w9 ⟨rfl, r9, x9⟩
            have R9 := Lib.hid r9
            have X9 : Hid (Ext None_ w w9) := Lib.hid (hx8.out.trans x9 (fun k hk (e : k = g) => by omega))
            clear r9 x9
            obtain ⟨Ar, cr, ⟨d0, d1, d2, d3⟩, df, _⟩ := R9.out.cells
            go_wp2_with fail
            refine (good_any _ _ true _ rfl).mono ?_
            rintro e w10 ⟨rfl, x10⟩
            have R10 := Lib.hid (R9.out.ext0 x10)
            have X10 := Lib.hid (X9.out.trans0 x10)
            clear x10
            go_wp2_with fail
            exact ⟨⟨j + 1, by go_num, by omega, R10, X10⟩, by simp [intOf]; omega⟩
          · have hge : j = its2.length := by omega
            subst hge
            have hr2 : Hid (Rd wr g g0 (L ++ t) ⟨L.length, 0, 0⟩) := Lib.hid (by have := hr.out; rw [List.take_length, ← HLL.out] at this; exact this)
            clear hr hlt
            go_wp2_with fail
            refine (Next_any g g0 (L ++ t) _ _ hr2.out).mono ?_
            rintro e w9 ⟨rfl, rfl⟩
            go_wp2_with fail
            refine (End_any g g0 (L ++ t) _ _ hr2.out).mono ?_
            rintro e w10 ⟨rfl, r10, x10⟩
            have X10 : Hid (Ext None_ w w10) := Lib.hid (hx8.out.trans x10 (fun k hk (e : k = g) => by omega))
            by_cases ht : t.length = 0
            · have htb : ((t.length : Int) == 0) = true := by simp only [beq_iff_eq]; omega
              have hE : EndR (L ++ t) ⟨L.length, 0, 0⟩ = ⟨L.length, 0, 0⟩ := by unfold EndR; rw [if_neg (by simp only [List.length_append]; omega)]
              rw [hE]
              clear r10 x10 hE
              go_wp2_with fail
              refine (wireRuns_any _).mono ?_
              rintro e w11 ⟨rfl, x11⟩
              have X11 := Lib.hid (X10.out.trans0 x11)
              clear x11
              go_wp2_with fail
              go_ret
              exact ⟨rfl, X11.out⟩
            · have htb : ((t.length : Int) == 0) = false := by simp only [beq_eq_false_iff_ne, ne_eq]; omega
              have hE : EndR (L ++ t) ⟨L.length, 0, 0⟩ = ⟨L.length, L.length, 5⟩ := by unfold EndR; rw [if_pos (by simp only [List.length_append]; exact ⟨trivial, by omega⟩)]
              rw [hE] at r10 ⊢
              have R10 := Lib.hid r10
              clear r10 x10 hE
              obtain ⟨Ar, cr, ⟨d0, d1, d2, d3⟩, df, _⟩ := R10.out.cells
              go_wp2_with fail
              refine (where_any _ _ _).mono ?_
              rintro e w11 ⟨rfl, x11⟩
              have X11 := Lib.hid (X10.out.trans0 x11)
              clear x11
              go_wp2_with fail
              refine (wireRuns_any _).mono ?_
              rintro e w12 ⟨rfl, x12⟩
              have X12 := Lib.hid (X11.out.trans0 x12)
              clear x12
              go_wp2_with fail
              go_ret
              exact ⟨rfl, X12.out⟩
end Go.Proofs.Ytmobdofkiddfhaa
