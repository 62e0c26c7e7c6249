/- DiskRoom, walked. Written by gen_disk14.py. -/
import Derived.Test.YtakcdmmniaipeaaDisk13
import Derived.Test.YtakcdmmniaipeaaOpenA
set_option linter.unusedVariables false
set_option linter.unusedSimpArgs false
namespace Go.Proofs.Ytakcdmmniaipeaa
open Go.RowKit B
theorem read_len {w : World} {g : Nat} {D : DS} (h : IsD w g D) (f : Int) : (readF D f).length ≤ 140737488355328 := by
  obtain ⟨M, C, h⟩ := h
  unfold readF
  split
  · simp
  · split
    · rename_i hf
      obtain ⟨h0, h1⟩ := inF_true hf
      obtain ⟨n, rfl⟩ : ∃ n : Nat, f = n := ⟨f.toNat, by omega⟩
      have := h.ok.fl _ (fileAt_mem (fs := D.files) (i := n) (by rw [h.ok.f64]; omega))
      omega
    · simp
theorem calm_read {q : Int} {D : DS} (h : Calm q D) {D' : DS} (e : D' = D) (f : Int) : readF D' f = readF D f := by rw [e]
set_option maxRecDepth 100000 in
set_option maxHeartbeats 16000000 in
theorem DiskRoom_any (quota : Int) (hq : I64 quota) (A0 : Option Addr) (cap : Nat) (l : List (Ask × Option Addr × Nat)) (w : World) (hl : Aks w A0 l) (hlen : l.length ≤ 140737488351232) : Calls Try.prog 9 #[.int .i64 quota, .slice A0 l.length cap] w fun e w' => e = .returned (.bool true) ∧ Ext None_ w w' := by
  have hw0 := within_any quota 0 5000
  obtain ⟨Q, hQ⟩ : ∃ Q, Q = within quota 0 5000 := ⟨_, rfl⟩
  have hQ0 : 0 ≤ Q ∧ Q ≤ 5000 := by rw [hQ]; unfold within; omega
  have HWI : Hid (∀ W, Calls Try.prog 16 #[.int .i64 quota, .int .i64 0, .int .i64 5000] W fun e w' => e = .returned (.int .i64 Q) ∧ W = w') := Lib.hid (fun W => hQ ▸ within_any quota 0 5000 W hq (by omega) (by omega) (by omega))
  have HL := Lib.hid hl
  have HNEW := Lib.hid (fun W => lw_new Q W hQ0.1 (by omega))
  have HCE := Lib.hid (calm_empty hQ0.1)
  clear hw0 hQ hl hq
  go_enter Try.func9, Try.ntmps9
  go_wp2_with (first
    | (go_at_call 16; refine (HWI.out _).mono ?_; rintro e w1 ⟨rfl, rfl⟩)
    | (go_at_call 14; refine (HNEW.out _).mono ?_; rintro e wA ⟨g, rfl, h1⟩; have HA := Lib.hid h1; clear h1))
  clear HWI HNEW
  go_loopw [7] (fun v7 wr => ∃ (i : Nat) (D : DS), v7 = .int .i64 i ∧ i ≤ 40 ∧ D.wait.length ≤ i ∧ Hid (Calm Q D) ∧ Hid (Lw w [] [] g D wr)) (fun v7 _ => 40 - (intOf v7).toNat)
  case atStart => exact ⟨0, _, rfl, by omega, by simp [emptyD], HCE, HA⟩
  case round =>
    obtain ⟨i, D, rfl, hi, hdw, hcalm, hlw⟩ := hrel
    by_cases hend : i < l.length ∧ i < 40
    · obtain ⟨h1, h2⟩ := hend
      obtain ⟨q, hq⟩ : ∃ q, q = l[i] := ⟨_, rfl⟩
      obtain ⟨ad, hA0, ⟨k0, k1, k2, k3, k4⟩, hok⟩ := HL.out i q (by rw [hq]; exact List.getElem?_eq_getElem h1)
      subst hA0
      obtain ⟨⟨a, B, cb⟩, hq2⟩ : ∃ r : Ask × Option Addr × Nat, r = q := ⟨q, rfl⟩
      rw [← hq2] at k0 k1 k2 k3 k4 hok
      simp only at k0 k1 k2 k3 k4 hok
      have hx0 := (Lw.x hlw.out)
      have d0 := hx0.cell k0 (fun a => a)
      have d1 := hx0.cell k1 (fun a => a)
      have d2 := hx0.cell k2 (fun a => a)
      have d3 := hx0.cell k3 (fun a => a)
      have d4 := hx0.cell k4 (fun a => a)
      have HOK := Lib.hid hok
      have hi1 := hok.i1
      have hi2 := hok.i2
      have hdl := hok.len
      clear hq hq2 k0 k1 k2 k3 k4 hx0 hok
      by_cases hk : a.kind = 1
      · rw [hk] at d0
        have HBL : Hid (Blk (wr.alloc (.cells #[.int .i64 1, .int .i64 a.file, .int .i64 a.at_, .int .i64 a.n, .slice B a.data.length cb] 48)) wr.heap.size #[.int .i64 1, .int .i64 a.file, .int .i64 a.at_, .int .i64 a.n, .slice B a.data.length cb] 48) := Lib.hid (Blk.new wr _ _)
        have HL1 : Hid (Lw w [(some ⟨wr.heap.size, 0, none⟩, [])] [] g D (wr.alloc (.cells #[.int .i64 1, .int .i64 a.file, .int .i64 a.at_, .int .i64 a.n, .slice B a.data.length cb] 48))) := Lib.hid (Lw.addRow hlw.out (x0 wr _) (Row.nil _ _) (fun ad e => by cases e; exact ⟨Nat.le_refl _, HBL.out.lt⟩))
        have HDAT : Hid (∀ W, Ext None_ w W → Row W B (B8 a.data)) := Lib.hid (fun W hx => HOK.out.row.ext0 hx)
        have HBW : Hid (∀ ad, B = some ad → 0 < a.data.length → ad.block < w.heap.size) := Lib.hid HOK.out.blk
        have HBY := Lib.hid HOK.out.byt
        have HRL : Hid ((readF D a.file).length ≤ 140737488355328) := Lib.hid (read_len (Lw.is hlw.out) a.file)
        obtain ⟨n1, n2, n3, n4⟩ := calm_write hcalm.out a.file a.at_ a.data
        obtain ⟨⟨f, D'⟩, hw⟩ : ∃ r, r = writeD D a.file a.at_ a.data := ⟨_, rfl⟩
        rw [← hw] at n1 n2 n3 n4
        simp only at n1 n2 n3 n4
        have b1 : 0 ≤ D'.quota - (heldN D'.files : Int) := by have := n1.quota; have := n1.held; omega
        have b2 : D'.quota - (heldN D'.files : Int) ≤ Q := by have := n1.quota; have := n1.held; omega
        have N1 := Lib.hid n1
        clear n1
        by_cases hf : f = 0
        · subst hf
          clear n2 n3
          go_wp2_with (first
            | (go_at_call 23; refine (is_read (Lw.is HL1.out) a.file).mono ?_; rintro e wB ⟨A1, c1, rfl, hr1, ho1, hb1, hc1, hx1⟩; have HB := Lib.hid (Lw.addRow HL1.out hx1 hr1 hb1); have p0 := hx1.cell (HBL.out.cell 0) (fun a => a); have p1 := hx1.cell (HBL.out.cell 1) (fun a => a); have p2 := hx1.cell (HBL.out.cell 2) (fun a => a); have p3 := hx1.cell (HBL.out.cell 3) (fun a => a); have p4 := hx1.cell (HBL.out.cell 4) (fun a => a); clear hr1 ho1 hb1 hx1)
            | (go_at_call 27; refine (is_room (Lw.is HB.out)).mono ?_; rintro e wC ⟨rfl, hx2⟩; have HC := Lib.hid (HB.out.ext0 hx2); have q0 := hx2.cell p0 (fun a => a); have q1 := hx2.cell p1 (fun a => a); have q2 := hx2.cell p2 (fun a => a); have q3 := hx2.cell p3 (fun a => a); have q4 := hx2.cell p4 (fun a => a); clear hx2 HB p0 p1 p2 p3 p4)
            | (go_at_call 15; refine (lw_writeE HC.out hw.symm B cb (HDAT.out _ (Lw.x HC.out)) HBY.out (fun ad e hl => .inr (HBW.out ad e hl)) (by omega) (by omega)).mono ?_; rintro e wD ⟨rfl, h3, hx3⟩; have HD := Lib.hid h3; have r0 := hx3.cell q0 (fun h => h.2 (some ⟨wr.heap.size, 0, none⟩, []) (by simp) _ rfl rfl); have r1 := hx3.cell q1 (fun h => h.2 (some ⟨wr.heap.size, 0, none⟩, []) (by simp) _ rfl rfl); have r2 := hx3.cell q2 (fun h => h.2 (some ⟨wr.heap.size, 0, none⟩, []) (by simp) _ rfl rfl); have r3 := hx3.cell q3 (fun h => h.2 (some ⟨wr.heap.size, 0, none⟩, []) (by simp) _ rfl rfl); have r4 := hx3.cell q4 (fun h => h.2 (some ⟨wr.heap.size, 0, none⟩, []) (by simp) _ rfl rfl); clear h3 hx3 HC q0 q1 q2 q3 q4)
            | (go_at_call 27; refine (is_room (Lw.is HD.out)).mono ?_; rintro e wE ⟨rfl, hx4⟩; have HE := Lib.hid (HD.out.ext0 hx4); have s0 := hx4.cell r0 (fun a => a); have s1 := hx4.cell r1 (fun a => a); have s2 := hx4.cell r2 (fun a => a); have s3 := hx4.cell r3 (fun a => a); have s4 := hx4.cell r4 (fun a => a); clear hx4 HD r0 r1 r2 r3 r4)
            | (go_at_call 27; refine (is_room (Lw.is HE.out)).mono ?_; rintro e wF ⟨rfl, hx5⟩; have HF := Lib.hid (HE.out.ext0 hx5); have t0 := hx5.cell s0 (fun a => a); have t1 := hx5.cell s1 (fun a => a); have t2 := hx5.cell s2 (fun a => a); have t3 := hx5.cell s3 (fun a => a); have t4 := hx5.cell s4 (fun a => a); clear hx5 HE s0 s1 s2 s3 s4)
            | (go_at_call 23; refine (is_readE (Lw.is HF.out) (rfl : readF D a.file = readF D a.file)).mono ?_; rintro e wG ⟨A2, c2, rfl, hr2, _, _, _, hx6⟩; have HG := Lib.hid (HF.out.ext0 hx6); have HR2 := Lib.hid hr2; have u0 := hx6.cell t0 (fun a => a); have u1 := hx6.cell t1 (fun a => a); have u2 := hx6.cell t2 (fun a => a); have u3 := hx6.cell t3 (fun a => a); have u4 := hx6.cell t4 (fun a => a); clear hx6 hr2 HF t0 t1 t2 t3 t4)
            | (go_at_call 24; refine (same_any A2 c2 (readF D a.file) A1 c1 (readF D a.file) _ HR2.out (Lw.row HG.out (List.mem_cons_self ..)) HRL.out HRL.out).mono ?_; rintro e wH ⟨h7, hx7⟩; rw [show decide (readF D a.file = readF D a.file) = true from by simp] at h7; subst h7; have HH := Lib.hid (HG.out.ext0 hx7); have v0 := hx7.cell u0 (fun a => a); have v1 := hx7.cell u1 (fun a => a); have v2 := hx7.cell u2 (fun a => a); have v3 := hx7.cell u3 (fun a => a); have v4 := hx7.cell u4 (fun a => a); clear hx7 HG u0 u1 u2 u3 u4)
            | (go_at_call 27; refine (is_room (Lw.is HH.out)).mono ?_; rintro e wI ⟨rfl, hx8⟩; have HI := Lib.hid (HH.out.ext0 hx8); clear hx8 HH v0 v1 v2 v3 v4))
          go_roundw
          case rel => exact ⟨i + 1, D', by go_num, by omega, by omega, N1, Lib.hid (HF.out.sub (fun _ h => by simp at h) (fun _ h => h))⟩
          case measure => simp [intOf]; omega
        · obtain rfl := n2 hf
          have hf1 : (f != 0) = true := by simp [hf]
          have hf2 : (f == 0) = false := by simp [hf]
          have hf3 : (f == 11) = false := by simp [n3]
          clear n2 hf n3
          go_wp2_with (first
            | (go_at_call 23; refine (is_read (Lw.is HL1.out) a.file).mono ?_; rintro e wB ⟨A1, c1, rfl, hr1, ho1, hb1, hc1, hx1⟩; have HB := Lib.hid (Lw.addRow HL1.out hx1 hr1 hb1); have p0 := hx1.cell (HBL.out.cell 0) (fun a => a); have p1 := hx1.cell (HBL.out.cell 1) (fun a => a); have p2 := hx1.cell (HBL.out.cell 2) (fun a => a); have p3 := hx1.cell (HBL.out.cell 3) (fun a => a); have p4 := hx1.cell (HBL.out.cell 4) (fun a => a); clear hr1 ho1 hb1 hx1)
            | (go_at_call 27; refine (is_room (Lw.is HB.out)).mono ?_; rintro e wC ⟨rfl, hx2⟩; have HC := Lib.hid (HB.out.ext0 hx2); have q0 := hx2.cell p0 (fun a => a); have q1 := hx2.cell p1 (fun a => a); have q2 := hx2.cell p2 (fun a => a); have q3 := hx2.cell p3 (fun a => a); have q4 := hx2.cell p4 (fun a => a); clear hx2 HB p0 p1 p2 p3 p4)
            | (go_at_call 15; refine (lw_writeE HC.out hw.symm B cb (HDAT.out _ (Lw.x HC.out)) HBY.out (fun ad e hl => .inr (HBW.out ad e hl)) (by omega) (by omega)).mono ?_; rintro e wD ⟨rfl, h3, hx3⟩; have HD := Lib.hid h3; have r0 := hx3.cell q0 (fun h => h.2 (some ⟨wr.heap.size, 0, none⟩, []) (by simp) _ rfl rfl); have r1 := hx3.cell q1 (fun h => h.2 (some ⟨wr.heap.size, 0, none⟩, []) (by simp) _ rfl rfl); have r2 := hx3.cell q2 (fun h => h.2 (some ⟨wr.heap.size, 0, none⟩, []) (by simp) _ rfl rfl); have r3 := hx3.cell q3 (fun h => h.2 (some ⟨wr.heap.size, 0, none⟩, []) (by simp) _ rfl rfl); have r4 := hx3.cell q4 (fun h => h.2 (some ⟨wr.heap.size, 0, none⟩, []) (by simp) _ rfl rfl); clear h3 hx3 HC q0 q1 q2 q3 q4)
            | (go_at_call 27; refine (is_room (Lw.is HD.out)).mono ?_; rintro e wE ⟨rfl, hx4⟩; have HE := Lib.hid (HD.out.ext0 hx4); have s0 := hx4.cell r0 (fun a => a); have s1 := hx4.cell r1 (fun a => a); have s2 := hx4.cell r2 (fun a => a); have s3 := hx4.cell r3 (fun a => a); have s4 := hx4.cell r4 (fun a => a); clear hx4 HD r0 r1 r2 r3 r4)
            | (go_at_call 27; refine (is_room (Lw.is HE.out)).mono ?_; rintro e wF ⟨rfl, hx5⟩; have HF := Lib.hid (HE.out.ext0 hx5); have t0 := hx5.cell s0 (fun a => a); have t1 := hx5.cell s1 (fun a => a); have t2 := hx5.cell s2 (fun a => a); have t3 := hx5.cell s3 (fun a => a); have t4 := hx5.cell s4 (fun a => a); clear hx5 HE s0 s1 s2 s3 s4)
            | (go_at_call 23; refine (is_readE (Lw.is HF.out) (rfl : readF D' a.file = readF D' a.file)).mono ?_; rintro e wG ⟨A2, c2, rfl, hr2, _, _, _, hx6⟩; have HG := Lib.hid (HF.out.ext0 hx6); have HR2 := Lib.hid hr2; have u0 := hx6.cell t0 (fun a => a); have u1 := hx6.cell t1 (fun a => a); have u2 := hx6.cell t2 (fun a => a); have u3 := hx6.cell t3 (fun a => a); have u4 := hx6.cell t4 (fun a => a); clear hx6 hr2 HF t0 t1 t2 t3 t4)
            | (go_at_call 24; refine (same_any A2 c2 (readF D' a.file) A1 c1 (readF D' a.file) _ HR2.out (Lw.row HG.out (List.mem_cons_self ..)) HRL.out HRL.out).mono ?_; rintro e wH ⟨h7, hx7⟩; rw [show decide (readF D' a.file = readF D' a.file) = true from by simp] at h7; subst h7; have HH := Lib.hid (HG.out.ext0 hx7); have v0 := hx7.cell u0 (fun a => a); have v1 := hx7.cell u1 (fun a => a); have v2 := hx7.cell u2 (fun a => a); have v3 := hx7.cell u3 (fun a => a); have v4 := hx7.cell u4 (fun a => a); clear hx7 HG u0 u1 u2 u3 u4)
            | (go_at_call 27; refine (is_room (Lw.is HH.out)).mono ?_; rintro e wI ⟨rfl, hx8⟩; have HI := Lib.hid (HH.out.ext0 hx8); clear hx8 HH v0 v1 v2 v3 v4))
          go_roundw
          case rel => exact ⟨i + 1, D', by go_num, by omega, by omega, N1, Lib.hid (HI.out.sub (fun _ h => by simp at h) (fun _ h => h))⟩
          case measure => simp [intOf]; omega
      · by_cases hk2 : a.kind = 2
        · replace hk := hk2
          rw [hk] at d0
          have HBL : Hid (Blk (wr.alloc (.cells #[.int .i64 2, .int .i64 a.file, .int .i64 a.at_, .int .i64 a.n, .slice B a.data.length cb] 48)) wr.heap.size #[.int .i64 2, .int .i64 a.file, .int .i64 a.at_, .int .i64 a.n, .slice B a.data.length cb] 48) := Lib.hid (Blk.new wr _ _)
          have HL1 : Hid (Lw w [(some ⟨wr.heap.size, 0, none⟩, [])] [] g D (wr.alloc (.cells #[.int .i64 2, .int .i64 a.file, .int .i64 a.at_, .int .i64 a.n, .slice B a.data.length cb] 48))) := Lib.hid (Lw.addRow hlw.out (x0 wr _) (Row.nil _ _) (fun ad e => by cases e; exact ⟨Nat.le_refl _, HBL.out.lt⟩))
          have HDAT : Hid (∀ W, Ext None_ w W → Row W B (B8 a.data)) := Lib.hid (fun W hx => HOK.out.row.ext0 hx)
          have HBW : Hid (∀ ad, B = some ad → 0 < a.data.length → ad.block < w.heap.size) := Lib.hid HOK.out.blk
          have HBY := Lib.hid HOK.out.byt
          have HRL : Hid ((readF D a.file).length ≤ 140737488355328) := Lib.hid (read_len (Lw.is hlw.out) a.file)
          obtain ⟨n1, n2, n3, n4⟩ := calm_cut hcalm.out a.file a.at_
          obtain ⟨⟨f, D'⟩, hw⟩ : ∃ r, r = cutD D a.file a.at_ := ⟨_, rfl⟩
          rw [← hw] at n1 n2 n3 n4
          simp only at n1 n2 n3 n4
          have b1 : 0 ≤ D'.quota - (heldN D'.files : Int) := by have := n1.quota; have := n1.held; omega
          have b2 : D'.quota - (heldN D'.files : Int) ≤ Q := by have := n1.quota; have := n1.held; omega
          have N1 := Lib.hid n1
          clear n1
          by_cases hf : f = 0
          · subst hf
            clear n2 n3
            go_wp2_with (first
              | (go_at_call 23; refine (is_read (Lw.is HL1.out) a.file).mono ?_; rintro e wB ⟨A1, c1, rfl, hr1, ho1, hb1, hc1, hx1⟩; have HB := Lib.hid (Lw.addRow HL1.out hx1 hr1 hb1); have p0 := hx1.cell (HBL.out.cell 0) (fun a => a); have p1 := hx1.cell (HBL.out.cell 1) (fun a => a); have p2 := hx1.cell (HBL.out.cell 2) (fun a => a); have p3 := hx1.cell (HBL.out.cell 3) (fun a => a); have p4 := hx1.cell (HBL.out.cell 4) (fun a => a); clear hr1 ho1 hb1 hx1)
              | (go_at_call 27; refine (is_room (Lw.is HB.out)).mono ?_; rintro e wC ⟨rfl, hx2⟩; have HC := Lib.hid (HB.out.ext0 hx2); have q0 := hx2.cell p0 (fun a => a); have q1 := hx2.cell p1 (fun a => a); have q2 := hx2.cell p2 (fun a => a); have q3 := hx2.cell p3 (fun a => a); have q4 := hx2.cell p4 (fun a => a); clear hx2 HB p0 p1 p2 p3 p4)
              | (go_at_call 26; refine (lw_cutE HC.out hw.symm (by omega)).mono ?_; rintro e wD ⟨rfl, h3, hx3⟩; have HD := Lib.hid h3; have r0 := hx3.cell q0 (fun h => h.2 (some ⟨wr.heap.size, 0, none⟩, []) (by simp) _ rfl rfl); have r1 := hx3.cell q1 (fun h => h.2 (some ⟨wr.heap.size, 0, none⟩, []) (by simp) _ rfl rfl); have r2 := hx3.cell q2 (fun h => h.2 (some ⟨wr.heap.size, 0, none⟩, []) (by simp) _ rfl rfl); have r3 := hx3.cell q3 (fun h => h.2 (some ⟨wr.heap.size, 0, none⟩, []) (by simp) _ rfl rfl); have r4 := hx3.cell q4 (fun h => h.2 (some ⟨wr.heap.size, 0, none⟩, []) (by simp) _ rfl rfl); clear h3 hx3 HC q0 q1 q2 q3 q4)
              | (go_at_call 27; refine (is_room (Lw.is HD.out)).mono ?_; rintro e wE ⟨rfl, hx4⟩; have HE := Lib.hid (HD.out.ext0 hx4); have s0 := hx4.cell r0 (fun a => a); have s1 := hx4.cell r1 (fun a => a); have s2 := hx4.cell r2 (fun a => a); have s3 := hx4.cell r3 (fun a => a); have s4 := hx4.cell r4 (fun a => a); clear hx4 HD r0 r1 r2 r3 r4)
              | (go_at_call 27; refine (is_room (Lw.is HE.out)).mono ?_; rintro e wF ⟨rfl, hx5⟩; have HF := Lib.hid (HE.out.ext0 hx5); have t0 := hx5.cell s0 (fun a => a); have t1 := hx5.cell s1 (fun a => a); have t2 := hx5.cell s2 (fun a => a); have t3 := hx5.cell s3 (fun a => a); have t4 := hx5.cell s4 (fun a => a); clear hx5 HE s0 s1 s2 s3 s4)
              | (go_at_call 23; refine (is_readE (Lw.is HF.out) (rfl : readF D a.file = readF D a.file)).mono ?_; rintro e wG ⟨A2, c2, rfl, hr2, _, _, _, hx6⟩; have HG := Lib.hid (HF.out.ext0 hx6); have HR2 := Lib.hid hr2; have u0 := hx6.cell t0 (fun a => a); have u1 := hx6.cell t1 (fun a => a); have u2 := hx6.cell t2 (fun a => a); have u3 := hx6.cell t3 (fun a => a); have u4 := hx6.cell t4 (fun a => a); clear hx6 hr2 HF t0 t1 t2 t3 t4)
              | (go_at_call 24; refine (same_any A2 c2 (readF D a.file) A1 c1 (readF D a.file) _ HR2.out (Lw.row HG.out (List.mem_cons_self ..)) HRL.out HRL.out).mono ?_; rintro e wH ⟨h7, hx7⟩; rw [show decide (readF D a.file = readF D a.file) = true from by simp] at h7; subst h7; have HH := Lib.hid (HG.out.ext0 hx7); have v0 := hx7.cell u0 (fun a => a); have v1 := hx7.cell u1 (fun a => a); have v2 := hx7.cell u2 (fun a => a); have v3 := hx7.cell u3 (fun a => a); have v4 := hx7.cell u4 (fun a => a); clear hx7 HG u0 u1 u2 u3 u4)
              | (go_at_call 27; refine (is_room (Lw.is HH.out)).mono ?_; rintro e wI ⟨rfl, hx8⟩; have HI := Lib.hid (HH.out.ext0 hx8); clear hx8 HH v0 v1 v2 v3 v4))
            go_roundw
            case rel => exact ⟨i + 1, D', by go_num, by omega, by omega, N1, Lib.hid (HF.out.sub (fun _ h => by simp at h) (fun _ h => h))⟩
            case measure => simp [intOf]; omega
          · obtain rfl := n2 hf
            have hf1 : (f != 0) = true := by simp [hf]
            have hf2 : (f == 0) = false := by simp [hf]
            have hf3 : (f == 11) = false := by simp [n3]
            clear n2 hf n3
            go_wp2_with (first
              | (go_at_call 23; refine (is_read (Lw.is HL1.out) a.file).mono ?_; rintro e wB ⟨A1, c1, rfl, hr1, ho1, hb1, hc1, hx1⟩; have HB := Lib.hid (Lw.addRow HL1.out hx1 hr1 hb1); have p0 := hx1.cell (HBL.out.cell 0) (fun a => a); have p1 := hx1.cell (HBL.out.cell 1) (fun a => a); have p2 := hx1.cell (HBL.out.cell 2) (fun a => a); have p3 := hx1.cell (HBL.out.cell 3) (fun a => a); have p4 := hx1.cell (HBL.out.cell 4) (fun a => a); clear hr1 ho1 hb1 hx1)
              | (go_at_call 27; refine (is_room (Lw.is HB.out)).mono ?_; rintro e wC ⟨rfl, hx2⟩; have HC := Lib.hid (HB.out.ext0 hx2); have q0 := hx2.cell p0 (fun a => a); have q1 := hx2.cell p1 (fun a => a); have q2 := hx2.cell p2 (fun a => a); have q3 := hx2.cell p3 (fun a => a); have q4 := hx2.cell p4 (fun a => a); clear hx2 HB p0 p1 p2 p3 p4)
              | (go_at_call 26; refine (lw_cutE HC.out hw.symm (by omega)).mono ?_; rintro e wD ⟨rfl, h3, hx3⟩; have HD := Lib.hid h3; have r0 := hx3.cell q0 (fun h => h.2 (some ⟨wr.heap.size, 0, none⟩, []) (by simp) _ rfl rfl); have r1 := hx3.cell q1 (fun h => h.2 (some ⟨wr.heap.size, 0, none⟩, []) (by simp) _ rfl rfl); have r2 := hx3.cell q2 (fun h => h.2 (some ⟨wr.heap.size, 0, none⟩, []) (by simp) _ rfl rfl); have r3 := hx3.cell q3 (fun h => h.2 (some ⟨wr.heap.size, 0, none⟩, []) (by simp) _ rfl rfl); have r4 := hx3.cell q4 (fun h => h.2 (some ⟨wr.heap.size, 0, none⟩, []) (by simp) _ rfl rfl); clear h3 hx3 HC q0 q1 q2 q3 q4)
              | (go_at_call 27; refine (is_room (Lw.is HD.out)).mono ?_; rintro e wE ⟨rfl, hx4⟩; have HE := Lib.hid (HD.out.ext0 hx4); have s0 := hx4.cell r0 (fun a => a); have s1 := hx4.cell r1 (fun a => a); have s2 := hx4.cell r2 (fun a => a); have s3 := hx4.cell r3 (fun a => a); have s4 := hx4.cell r4 (fun a => a); clear hx4 HD r0 r1 r2 r3 r4)
              | (go_at_call 27; refine (is_room (Lw.is HE.out)).mono ?_; rintro e wF ⟨rfl, hx5⟩; have HF := Lib.hid (HE.out.ext0 hx5); have t0 := hx5.cell s0 (fun a => a); have t1 := hx5.cell s1 (fun a => a); have t2 := hx5.cell s2 (fun a => a); have t3 := hx5.cell s3 (fun a => a); have t4 := hx5.cell s4 (fun a => a); clear hx5 HE s0 s1 s2 s3 s4)
              | (go_at_call 23; refine (is_readE (Lw.is HF.out) (rfl : readF D' a.file = readF D' a.file)).mono ?_; rintro e wG ⟨A2, c2, rfl, hr2, _, _, _, hx6⟩; have HG := Lib.hid (HF.out.ext0 hx6); have HR2 := Lib.hid hr2; have u0 := hx6.cell t0 (fun a => a); have u1 := hx6.cell t1 (fun a => a); have u2 := hx6.cell t2 (fun a => a); have u3 := hx6.cell t3 (fun a => a); have u4 := hx6.cell t4 (fun a => a); clear hx6 hr2 HF t0 t1 t2 t3 t4)
              | (go_at_call 24; refine (same_any A2 c2 (readF D' a.file) A1 c1 (readF D' a.file) _ HR2.out (Lw.row HG.out (List.mem_cons_self ..)) HRL.out HRL.out).mono ?_; rintro e wH ⟨h7, hx7⟩; rw [show decide (readF D' a.file = readF D' a.file) = true from by simp] at h7; subst h7; have HH := Lib.hid (HG.out.ext0 hx7); have v0 := hx7.cell u0 (fun a => a); have v1 := hx7.cell u1 (fun a => a); have v2 := hx7.cell u2 (fun a => a); have v3 := hx7.cell u3 (fun a => a); have v4 := hx7.cell u4 (fun a => a); clear hx7 HG u0 u1 u2 u3 u4)
              | (go_at_call 27; refine (is_room (Lw.is HH.out)).mono ?_; rintro e wI ⟨rfl, hx8⟩; have HI := Lib.hid (HH.out.ext0 hx8); clear hx8 HH v0 v1 v2 v3 v4))
            go_roundw
            case rel => exact ⟨i + 1, D', by go_num, by omega, by omega, N1, Lib.hid (HI.out.sub (fun _ h => by simp at h) (fun _ h => h))⟩
            case measure => simp [intOf]; omega
        · by_cases hk3 : a.kind = 3
          · replace hk := hk3
            rw [hk] at d0
            have HBL : Hid (Blk (wr.alloc (.cells #[.int .i64 3, .int .i64 a.file, .int .i64 a.at_, .int .i64 a.n, .slice B a.data.length cb] 48)) wr.heap.size #[.int .i64 3, .int .i64 a.file, .int .i64 a.at_, .int .i64 a.n, .slice B a.data.length cb] 48) := Lib.hid (Blk.new wr _ _)
            have HL1 : Hid (Lw w [(some ⟨wr.heap.size, 0, none⟩, [])] [] g D (wr.alloc (.cells #[.int .i64 3, .int .i64 a.file, .int .i64 a.at_, .int .i64 a.n, .slice B a.data.length cb] 48))) := Lib.hid (Lw.addRow hlw.out (x0 wr _) (Row.nil _ _) (fun ad e => by cases e; exact ⟨Nat.le_refl _, HBL.out.lt⟩))
            have HDAT : Hid (∀ W, Ext None_ w W → Row W B (B8 a.data)) := Lib.hid (fun W hx => HOK.out.row.ext0 hx)
            have HBW : Hid (∀ ad, B = some ad → 0 < a.data.length → ad.block < w.heap.size) := Lib.hid HOK.out.blk
            have HBY := Lib.hid HOK.out.byt
            have HRL : Hid ((readF D a.file).length ≤ 140737488355328) := Lib.hid (read_len (Lw.is hlw.out) a.file)
            obtain ⟨n1, n2', n4⟩ := calm_sync hcalm.out
            have n2 : (syncD D).1 ≠ 0 → (syncD D).2 = D := fun h => absurd n2' h
            have n3 : (syncD D).1 ≠ 11 := by rw [n2']; decide
            obtain ⟨⟨f, D'⟩, hw⟩ : ∃ r, r = syncD D := ⟨_, rfl⟩
            rw [← hw] at n1 n2 n3 n4
            simp only at n1 n2 n3 n4
            clear n2'
            have b1 : 0 ≤ D'.quota - (heldN D'.files : Int) := by have := n1.quota; have := n1.held; omega
            have b2 : D'.quota - (heldN D'.files : Int) ≤ Q := by have := n1.quota; have := n1.held; omega
            have N1 := Lib.hid n1
            clear n1
            by_cases hf : f = 0
            · subst hf
              clear n2 n3
              go_wp2_with (first
                | (go_at_call 23; refine (is_read (Lw.is HL1.out) a.file).mono ?_; rintro e wB ⟨A1, c1, rfl, hr1, ho1, hb1, hc1, hx1⟩; have HB := Lib.hid (Lw.addRow HL1.out hx1 hr1 hb1); have p0 := hx1.cell (HBL.out.cell 0) (fun a => a); have p1 := hx1.cell (HBL.out.cell 1) (fun a => a); have p2 := hx1.cell (HBL.out.cell 2) (fun a => a); have p3 := hx1.cell (HBL.out.cell 3) (fun a => a); have p4 := hx1.cell (HBL.out.cell 4) (fun a => a); clear hr1 ho1 hb1 hx1)
                | (go_at_call 27; refine (is_room (Lw.is HB.out)).mono ?_; rintro e wC ⟨rfl, hx2⟩; have HC := Lib.hid (HB.out.ext0 hx2); have q0 := hx2.cell p0 (fun a => a); have q1 := hx2.cell p1 (fun a => a); have q2 := hx2.cell p2 (fun a => a); have q3 := hx2.cell p3 (fun a => a); have q4 := hx2.cell p4 (fun a => a); clear hx2 HB p0 p1 p2 p3 p4)
                | (go_at_call 25; refine (lw_syncE HC.out hw.symm).mono ?_; rintro e wD ⟨rfl, h3, hx3⟩; have HD := Lib.hid h3; have r0 := hx3.cell q0 (fun h => h.2 (some ⟨wr.heap.size, 0, none⟩, []) (by simp) _ rfl rfl); have r1 := hx3.cell q1 (fun h => h.2 (some ⟨wr.heap.size, 0, none⟩, []) (by simp) _ rfl rfl); have r2 := hx3.cell q2 (fun h => h.2 (some ⟨wr.heap.size, 0, none⟩, []) (by simp) _ rfl rfl); have r3 := hx3.cell q3 (fun h => h.2 (some ⟨wr.heap.size, 0, none⟩, []) (by simp) _ rfl rfl); have r4 := hx3.cell q4 (fun h => h.2 (some ⟨wr.heap.size, 0, none⟩, []) (by simp) _ rfl rfl); clear h3 hx3 HC q0 q1 q2 q3 q4)
                | (go_at_call 27; refine (is_room (Lw.is HD.out)).mono ?_; rintro e wE ⟨rfl, hx4⟩; have HE := Lib.hid (HD.out.ext0 hx4); have s0 := hx4.cell r0 (fun a => a); have s1 := hx4.cell r1 (fun a => a); have s2 := hx4.cell r2 (fun a => a); have s3 := hx4.cell r3 (fun a => a); have s4 := hx4.cell r4 (fun a => a); clear hx4 HD r0 r1 r2 r3 r4)
                | (go_at_call 27; refine (is_room (Lw.is HE.out)).mono ?_; rintro e wF ⟨rfl, hx5⟩; have HF := Lib.hid (HE.out.ext0 hx5); have t0 := hx5.cell s0 (fun a => a); have t1 := hx5.cell s1 (fun a => a); have t2 := hx5.cell s2 (fun a => a); have t3 := hx5.cell s3 (fun a => a); have t4 := hx5.cell s4 (fun a => a); clear hx5 HE s0 s1 s2 s3 s4)
                | (go_at_call 23; refine (is_readE (Lw.is HF.out) (rfl : readF D a.file = readF D a.file)).mono ?_; rintro e wG ⟨A2, c2, rfl, hr2, _, _, _, hx6⟩; have HG := Lib.hid (HF.out.ext0 hx6); have HR2 := Lib.hid hr2; have u0 := hx6.cell t0 (fun a => a); have u1 := hx6.cell t1 (fun a => a); have u2 := hx6.cell t2 (fun a => a); have u3 := hx6.cell t3 (fun a => a); have u4 := hx6.cell t4 (fun a => a); clear hx6 hr2 HF t0 t1 t2 t3 t4)
                | (go_at_call 24; refine (same_any A2 c2 (readF D a.file) A1 c1 (readF D a.file) _ HR2.out (Lw.row HG.out (List.mem_cons_self ..)) HRL.out HRL.out).mono ?_; rintro e wH ⟨h7, hx7⟩; rw [show decide (readF D a.file = readF D a.file) = true from by simp] at h7; subst h7; have HH := Lib.hid (HG.out.ext0 hx7); have v0 := hx7.cell u0 (fun a => a); have v1 := hx7.cell u1 (fun a => a); have v2 := hx7.cell u2 (fun a => a); have v3 := hx7.cell u3 (fun a => a); have v4 := hx7.cell u4 (fun a => a); clear hx7 HG u0 u1 u2 u3 u4)
                | (go_at_call 27; refine (is_room (Lw.is HH.out)).mono ?_; rintro e wI ⟨rfl, hx8⟩; have HI := Lib.hid (HH.out.ext0 hx8); clear hx8 HH v0 v1 v2 v3 v4))
              go_roundw
              case rel => exact ⟨i + 1, D', by go_num, by omega, by omega, N1, Lib.hid (HF.out.sub (fun _ h => by simp at h) (fun _ h => h))⟩
              case measure => simp [intOf]; omega
            · obtain rfl := n2 hf
              have hf1 : (f != 0) = true := by simp [hf]
              have hf2 : (f == 0) = false := by simp [hf]
              have hf3 : (f == 11) = false := by simp [n3]
              clear n2 hf n3
              go_wp2_with (first
                | (go_at_call 23; refine (is_read (Lw.is HL1.out) a.file).mono ?_; rintro e wB ⟨A1, c1, rfl, hr1, ho1, hb1, hc1, hx1⟩; have HB := Lib.hid (Lw.addRow HL1.out hx1 hr1 hb1); have p0 := hx1.cell (HBL.out.cell 0) (fun a => a); have p1 := hx1.cell (HBL.out.cell 1) (fun a => a); have p2 := hx1.cell (HBL.out.cell 2) (fun a => a); have p3 := hx1.cell (HBL.out.cell 3) (fun a => a); have p4 := hx1.cell (HBL.out.cell 4) (fun a => a); clear hr1 ho1 hb1 hx1)
                | (go_at_call 27; refine (is_room (Lw.is HB.out)).mono ?_; rintro e wC ⟨rfl, hx2⟩; have HC := Lib.hid (HB.out.ext0 hx2); have q0 := hx2.cell p0 (fun a => a); have q1 := hx2.cell p1 (fun a => a); have q2 := hx2.cell p2 (fun a => a); have q3 := hx2.cell p3 (fun a => a); have q4 := hx2.cell p4 (fun a => a); clear hx2 HB p0 p1 p2 p3 p4)
                | (go_at_call 25; refine (lw_syncE HC.out hw.symm).mono ?_; rintro e wD ⟨rfl, h3, hx3⟩; have HD := Lib.hid h3; have r0 := hx3.cell q0 (fun h => h.2 (some ⟨wr.heap.size, 0, none⟩, []) (by simp) _ rfl rfl); have r1 := hx3.cell q1 (fun h => h.2 (some ⟨wr.heap.size, 0, none⟩, []) (by simp) _ rfl rfl); have r2 := hx3.cell q2 (fun h => h.2 (some ⟨wr.heap.size, 0, none⟩, []) (by simp) _ rfl rfl); have r3 := hx3.cell q3 (fun h => h.2 (some ⟨wr.heap.size, 0, none⟩, []) (by simp) _ rfl rfl); have r4 := hx3.cell q4 (fun h => h.2 (some ⟨wr.heap.size, 0, none⟩, []) (by simp) _ rfl rfl); clear h3 hx3 HC q0 q1 q2 q3 q4)
                | (go_at_call 27; refine (is_room (Lw.is HD.out)).mono ?_; rintro e wE ⟨rfl, hx4⟩; have HE := Lib.hid (HD.out.ext0 hx4); have s0 := hx4.cell r0 (fun a => a); have s1 := hx4.cell r1 (fun a => a); have s2 := hx4.cell r2 (fun a => a); have s3 := hx4.cell r3 (fun a => a); have s4 := hx4.cell r4 (fun a => a); clear hx4 HD r0 r1 r2 r3 r4)
                | (go_at_call 27; refine (is_room (Lw.is HE.out)).mono ?_; rintro e wF ⟨rfl, hx5⟩; have HF := Lib.hid (HE.out.ext0 hx5); have t0 := hx5.cell s0 (fun a => a); have t1 := hx5.cell s1 (fun a => a); have t2 := hx5.cell s2 (fun a => a); have t3 := hx5.cell s3 (fun a => a); have t4 := hx5.cell s4 (fun a => a); clear hx5 HE s0 s1 s2 s3 s4)
                | (go_at_call 23; refine (is_readE (Lw.is HF.out) (rfl : readF D' a.file = readF D' a.file)).mono ?_; rintro e wG ⟨A2, c2, rfl, hr2, _, _, _, hx6⟩; have HG := Lib.hid (HF.out.ext0 hx6); have HR2 := Lib.hid hr2; have u0 := hx6.cell t0 (fun a => a); have u1 := hx6.cell t1 (fun a => a); have u2 := hx6.cell t2 (fun a => a); have u3 := hx6.cell t3 (fun a => a); have u4 := hx6.cell t4 (fun a => a); clear hx6 hr2 HF t0 t1 t2 t3 t4)
                | (go_at_call 24; refine (same_any A2 c2 (readF D' a.file) A1 c1 (readF D' a.file) _ HR2.out (Lw.row HG.out (List.mem_cons_self ..)) HRL.out HRL.out).mono ?_; rintro e wH ⟨h7, hx7⟩; rw [show decide (readF D' a.file = readF D' a.file) = true from by simp] at h7; subst h7; have HH := Lib.hid (HG.out.ext0 hx7); have v0 := hx7.cell u0 (fun a => a); have v1 := hx7.cell u1 (fun a => a); have v2 := hx7.cell u2 (fun a => a); have v3 := hx7.cell u3 (fun a => a); have v4 := hx7.cell u4 (fun a => a); clear hx7 HG u0 u1 u2 u3 u4)
                | (go_at_call 27; refine (is_room (Lw.is HH.out)).mono ?_; rintro e wI ⟨rfl, hx8⟩; have HI := Lib.hid (HH.out.ext0 hx8); clear hx8 HH v0 v1 v2 v3 v4))
              go_roundw
              case rel => exact ⟨i + 1, D', by go_num, by omega, by omega, N1, Lib.hid (HI.out.sub (fun _ h => by simp at h) (fun _ h => h))⟩
              case measure => simp [intOf]; omega
          · have hk1' : (a.kind == 1) = false := by simp [hk]
            have hk2' : (a.kind == 2) = false := by simp [hk2]
            have hk3' : (a.kind == 3) = false := by simp [hk3]
            have HBL : Hid (Blk (wr.alloc (.cells #[.int .i64 a.kind, .int .i64 a.file, .int .i64 a.at_, .int .i64 a.n, .slice B a.data.length cb] 48)) wr.heap.size #[.int .i64 a.kind, .int .i64 a.file, .int .i64 a.at_, .int .i64 a.n, .slice B a.data.length cb] 48) := Lib.hid (Blk.new wr _ _)
            have HL1 : Hid (Lw w [(some ⟨wr.heap.size, 0, none⟩, [])] [] g D (wr.alloc (.cells #[.int .i64 a.kind, .int .i64 a.file, .int .i64 a.at_, .int .i64 a.n, .slice B a.data.length cb] 48))) := Lib.hid (Lw.addRow hlw.out (x0 wr _) (Row.nil _ _) (fun ad e => by cases e; exact ⟨Nat.le_refl _, HBL.out.lt⟩))
            have HDAT : Hid (∀ W, Ext None_ w W → Row W B (B8 a.data)) := Lib.hid (fun W hx => HOK.out.row.ext0 hx)
            have HBW : Hid (∀ ad, B = some ad → 0 < a.data.length → ad.block < w.heap.size) := Lib.hid HOK.out.blk
            have HBY := Lib.hid HOK.out.byt
            have HRL : Hid ((readF D a.file).length ≤ 140737488355328) := Lib.hid (read_len (Lw.is hlw.out) a.file)
            obtain ⟨f, hf⟩ : ∃ f : Int, f = 0 := ⟨_, rfl⟩
            have n1 := hcalm.out
            have n4 : D.wait.length ≤ D.wait.length + 1 := by omega
            have b1 : 0 ≤ D.quota - (heldN D.files : Int) := by have := n1.quota; have := n1.held; omega
            have b2 : D.quota - (heldN D.files : Int) ≤ Q := by have := n1.quota; have := n1.held; omega
            have N1 := Lib.hid n1
            clear n1
            go_wp2_with (first
              | (go_at_call 23; refine (is_read (Lw.is HL1.out) a.file).mono ?_; rintro e wB ⟨A1, c1, rfl, hr1, ho1, hb1, hc1, hx1⟩; have HB := Lib.hid (Lw.addRow HL1.out hx1 hr1 hb1); have p0 := hx1.cell (HBL.out.cell 0) (fun a => a); have p1 := hx1.cell (HBL.out.cell 1) (fun a => a); have p2 := hx1.cell (HBL.out.cell 2) (fun a => a); have p3 := hx1.cell (HBL.out.cell 3) (fun a => a); have p4 := hx1.cell (HBL.out.cell 4) (fun a => a); clear hr1 ho1 hb1 hx1)
              | (go_at_call 27; refine (is_room (Lw.is HB.out)).mono ?_; rintro e wC ⟨rfl, hx2⟩; have HC := Lib.hid (HB.out.ext0 hx2); have q0 := hx2.cell p0 (fun a => a); have q1 := hx2.cell p1 (fun a => a); have q2 := hx2.cell p2 (fun a => a); have q3 := hx2.cell p3 (fun a => a); have q4 := hx2.cell p4 (fun a => a); clear hx2 HB p0 p1 p2 p3 p4)
              | (go_at_call 27; refine (is_room (Lw.is HC.out)).mono ?_; rintro e wE ⟨rfl, hx4⟩; have HE := Lib.hid (HC.out.ext0 hx4); have s0 := hx4.cell q0 (fun a => a); have s1 := hx4.cell q1 (fun a => a); have s2 := hx4.cell q2 (fun a => a); have s3 := hx4.cell q3 (fun a => a); have s4 := hx4.cell q4 (fun a => a); clear hx4 HC q0 q1 q2 q3 q4)
              | (go_at_call 27; refine (is_room (Lw.is HE.out)).mono ?_; rintro e wF ⟨rfl, hx5⟩; have HF := Lib.hid (HE.out.ext0 hx5); have t0 := hx5.cell s0 (fun a => a); have t1 := hx5.cell s1 (fun a => a); have t2 := hx5.cell s2 (fun a => a); have t3 := hx5.cell s3 (fun a => a); have t4 := hx5.cell s4 (fun a => a); clear hx5 HE s0 s1 s2 s3 s4)
              | (go_at_call 23; refine (is_readE (Lw.is HF.out) (rfl : readF D a.file = readF D a.file)).mono ?_; rintro e wG ⟨A2, c2, rfl, hr2, _, _, _, hx6⟩; have HG := Lib.hid (HF.out.ext0 hx6); have HR2 := Lib.hid hr2; have u0 := hx6.cell t0 (fun a => a); have u1 := hx6.cell t1 (fun a => a); have u2 := hx6.cell t2 (fun a => a); have u3 := hx6.cell t3 (fun a => a); have u4 := hx6.cell t4 (fun a => a); clear hx6 hr2 HF t0 t1 t2 t3 t4)
              | (go_at_call 24; refine (same_any A2 c2 (readF D a.file) A1 c1 (readF D a.file) _ HR2.out (Lw.row HG.out (List.mem_cons_self ..)) HRL.out HRL.out).mono ?_; rintro e wH ⟨h7, hx7⟩; rw [show decide (readF D a.file = readF D a.file) = true from by simp] at h7; subst h7; have HH := Lib.hid (HG.out.ext0 hx7); have v0 := hx7.cell u0 (fun a => a); have v1 := hx7.cell u1 (fun a => a); have v2 := hx7.cell u2 (fun a => a); have v3 := hx7.cell u3 (fun a => a); have v4 := hx7.cell u4 (fun a => a); clear hx7 HG u0 u1 u2 u3 u4)
              | (go_at_call 27; refine (is_room (Lw.is HH.out)).mono ?_; rintro e wI ⟨rfl, hx8⟩; have HI := Lib.hid (HH.out.ext0 hx8); clear hx8 HH v0 v1 v2 v3 v4))
            go_roundw
            case rel => exact ⟨i + 1, D, by go_num, by omega, by omega, N1, Lib.hid (HF.out.sub (fun _ h => by simp at h) (fun _ h => h))⟩
            case measure => simp [intOf]; omega
    · have HR := Lib.hid (fun W => DiskRuns_any W)
      by_cases ha : i < l.length
      · have hb : 40 ≤ i := by omega
        clear hend
        go_wp2_with (go_at_call 5; refine (HR.out _).mono ?_; rintro e wZ ⟨rfl, hz⟩; have HZ := Lib.hid hz; clear hz)
        go_ret
        exact ⟨rfl, (Lw.x hlw.out).trans0 HZ.out⟩
      · clear hend
        go_wp2_with (go_at_call 5; refine (HR.out _).mono ?_; rintro e wZ ⟨rfl, hz⟩; have HZ := Lib.hid hz; clear hz)
        go_ret
        exact ⟨rfl, (Lw.x hlw.out).trans0 HZ.out⟩
theorem DiskRoom_row (quota : Int) (hq : (Lit.int .i64 quota).wf = true) (x : AkX) {w : World} (hx : x.ok w) : Calls Try.prog 9 #[.int .i64 quota, x.v] w fun e w' => e = .returned (.bool true) ∧ Ext None_ w w' :=
  DiskRoom_any quota (i64_of hq) x.2.1 x.2.2 x.1 w hx.1 hx.2
end Go.Proofs.Ytakcdmmniaipeaa
