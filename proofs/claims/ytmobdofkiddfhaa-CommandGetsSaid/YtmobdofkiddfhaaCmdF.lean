/- drayref15: Encode, walked. Written by gen_enc.py. -/
import Derived.Test.YtmobdofkiddfhaaCmdE
set_option linter.unusedVariables false
set_option linter.unusedSimpArgs false
namespace Go.Proofs.Ytmobdofkiddfhaa
open Go.RowKit B

set_option maxRecDepth 100000 in
set_option maxHeartbeats 4000000 in
theorem rencodeF_any (q : Rq) (w : World) (hr : rightB q.c = false) :
    Calls Try.prog 52 #[.agg q.cells] w fun e w' => e = .returned (.string (strOfNums (encR q))) ∧ Ext None_ w w' := by
  have he : encR q = [] := by unfold encR; rw [hr]; rfl
  rw [he]
  have HR := Lib.hid (rRightF q.c hr)
  clear hr he
  unfold Rq.cells
  have HB := Lib.hid (Blk.new w #[.int .i64 q.ses, .int .i64 q.seq, .int .i64 q.c.kind, .int .i64 q.c.o.id, .int .i64 q.c.o.size, .int .i64 q.c.o.pick.p, .int .i64 q.c.o.pick.f, .int .i64 q.c.o.pick.t, .int .i64 q.c.o.pick.s, .int .i64 q.c.o.drop.p, .int .i64 q.c.o.drop.f, .int .i64 q.c.o.drop.t, .int .i64 q.c.o.drop.s, .int .i64 q.c.d.id, .int .i64 q.c.d.room, .int .i64 q.c.d.home, .int .i64 q.c.d.f, .int .i64 q.c.d.t, .bool q.c.d.ret, .int .i64 q.c.id, .int .i64 q.c.count] 70)
  have bc := HB.out.cell
  go_enter Try.func52, Try.ntmps52
  go_wp2_with (refine wpList_load_mid rfl 68 (.tmp 4) rfl w.heap.size 2 rfl [.int .i64 q.c.kind, .int .i64 q.c.o.id, .int .i64 q.c.o.size, .int .i64 q.c.o.pick.p, .int .i64 q.c.o.pick.f, .int .i64 q.c.o.pick.t, .int .i64 q.c.o.pick.s, .int .i64 q.c.o.drop.p, .int .i64 q.c.o.drop.f, .int .i64 q.c.o.drop.t, .int .i64 q.c.o.drop.s, .int .i64 q.c.d.id, .int .i64 q.c.d.room, .int .i64 q.c.d.home, .int .i64 q.c.d.f, .int .i64 q.c.d.t, .bool q.c.d.ret, .int .i64 q.c.id, .int .i64 q.c.count] _ (HB.out.range 2 _ rfl) Try.underlying68 rfl cmdSize ?_)
  refine (HR.out _).mono ?_
  rintro e w1 ⟨rfl, x1⟩
  have X1 := Lib.hid x1
  clear x1
  go_wp2_with fail
  go_ret
  exact ⟨rfl, (x0 _ _).trans0 X1.out⟩

set_option maxRecDepth 100000 in
set_option maxHeartbeats 8000000 in
theorem rencode1_any (q : Rq) (w : World) (hok : q.ok) (hk : q.c.kind = 1) (hr : rightB q.c = true) :
    Calls Try.prog 52 #[.agg q.cells] w fun e w' => e = .returned (.string (strOfNums (encR q))) ∧ Ext None_ w w' := by
  obtain ⟨h0, h1, h2, ho, hd, hi, hc⟩ := hok
  have hn : nmd q.c.kind = ⟨true, false, false, false, true⟩ := by simp [nmd, hk]
  have HE : Hid (encR q = enc q.ses ++ (enc q.seq ++ (enc q.c.kind ++ (encOrd q.c.o)))) := Lib.hid (by unfold encR encK; rw [if_pos hr, hn]; simp)
  have HR := Lib.hid (rRightT q.c hr)
  have e1 : (q.c.kind == 1) = true := by simp [hk]
  have e3 : (q.c.kind == 3) = false := by simp [hk]
  have e5 : (q.c.kind == 5) = false := by simp [hk]
  have e6 : (q.c.kind == 6) = false := by simp [hk]
  clear hr hn hk
  unfold Rq.cells
  have HB := Lib.hid (Blk.new w #[.int .i64 q.ses, .int .i64 q.seq, .int .i64 q.c.kind, .int .i64 q.c.o.id, .int .i64 q.c.o.size, .int .i64 q.c.o.pick.p, .int .i64 q.c.o.pick.f, .int .i64 q.c.o.pick.t, .int .i64 q.c.o.pick.s, .int .i64 q.c.o.drop.p, .int .i64 q.c.o.drop.f, .int .i64 q.c.o.drop.t, .int .i64 q.c.o.drop.s, .int .i64 q.c.d.id, .int .i64 q.c.d.room, .int .i64 q.c.d.home, .int .i64 q.c.d.f, .int .i64 q.c.d.t, .bool q.c.d.ret, .int .i64 q.c.id, .int .i64 q.c.count] 70)
  have q0 := Lib.hid (HB.out.cell 0)
  have q1 := Lib.hid (HB.out.cell 1)
  have q2 := Lib.hid (HB.out.cell 2)
  have bc := HB.out.cell
  go_enter Try.func52, Try.ntmps52
  go_wp2_with (refine wpList_load_mid rfl 68 (.tmp 4) rfl w.heap.size 2 rfl [.int .i64 q.c.kind, .int .i64 q.c.o.id, .int .i64 q.c.o.size, .int .i64 q.c.o.pick.p, .int .i64 q.c.o.pick.f, .int .i64 q.c.o.pick.t, .int .i64 q.c.o.pick.s, .int .i64 q.c.o.drop.p, .int .i64 q.c.o.drop.f, .int .i64 q.c.o.drop.t, .int .i64 q.c.o.drop.s, .int .i64 q.c.d.id, .int .i64 q.c.d.room, .int .i64 q.c.d.home, .int .i64 q.c.d.f, .int .i64 q.c.d.t, .bool q.c.d.ret, .int .i64 q.c.id, .int .i64 q.c.count] _ (HB.out.range 2 _ rfl) Try.underlying68 rfl cmdSize ?_)
  refine (HR.out _).mono ?_
  rintro e w0 ⟨rfl, XB0⟩
  replace XB0 := Lib.hid XB0
  clear bc
  have bc := (HB.out.ext0 XB0.out).cell
  go_wp2_with fail
  clear bc
  have CC : Hid ((fun W => W.cell? ⟨w.heap.size, 0, none⟩ = some (.int .i64 q.ses) ∧ W.cell? ⟨w.heap.size, 1, none⟩ = some (.int .i64 q.seq) ∧ W.cell? ⟨w.heap.size, 2, none⟩ = some (.int .i64 q.c.kind)) w0) := Lib.hid ⟨XB0.out.cell q0.out (fun a => a), XB0.out.cell q1.out (fun a => a), XB0.out.cell q2.out (fun a => a)⟩
  go_region_held3 (fun W => W.cell? ⟨w.heap.size, 0, none⟩ = some (.int .i64 q.ses) ∧ W.cell? ⟨w.heap.size, 1, none⟩ = some (.int .i64 q.seq) ∧ W.cell? ⟨w.heap.size, 2, none⟩ = some (.int .i64 q.c.kind)) (first | exact CC.out | (exact hcc) | (simp [*]; done)) (first
    | (go_at_call 66; (with_reducible refine (rwNum0_any q.ses _ h0 ).mono ?_); rintro e w1 ⟨v1, rfl, o1, x1⟩; obtain ⟨L1, hL1⟩ : ∃ L1, L1 = enc q.ses := ⟨_, rfl⟩; rw [← hL1] at o1; have len1 : L1.length ≤ 10 := (by rw [hL1]; exact (enc_length q.ses).2); have HL1 := Lib.hid hL1; obtain ⟨A1, c1, rfl, _, _, r1⟩ := Own.slice o1; have R1 := Lib.hid r1; have XB1 : Hid (Ext None_ (w.alloc (.cells #[.int .i64 q.ses, .int .i64 q.seq, .int .i64 q.c.kind, .int .i64 q.c.o.id, .int .i64 q.c.o.size, .int .i64 q.c.o.pick.p, .int .i64 q.c.o.pick.f, .int .i64 q.c.o.pick.t, .int .i64 q.c.o.pick.s, .int .i64 q.c.o.drop.p, .int .i64 q.c.o.drop.f, .int .i64 q.c.o.drop.t, .int .i64 q.c.o.drop.s, .int .i64 q.c.d.id, .int .i64 q.c.d.room, .int .i64 q.c.d.home, .int .i64 q.c.d.f, .int .i64 q.c.d.t, .bool q.c.d.ret, .int .i64 q.c.id, .int .i64 q.c.count] 70)) w1) := Lib.hid (by first | exact Ext.trans0 XB0.out x1 | exact Ext.trans0 XB0.out.drew x1 | exact Ext.trans0 XB0.out (Ext.trans0 ((Ext.refl _ _).drew) x1)); have hcc := And.intro (XB1.out.cell q0.out (fun a => a)) (And.intro (XB1.out.cell q1.out (fun a => a)) (XB1.out.cell q2.out (fun a => a))); clear hL1 o1 x1 r1)
    | (go_at_call 66; (with_reducible refine (rwNum_any A1 c1 L1 q.seq _ h1 (by first | exact R1.out | exact R1.out.drew) (by omega)).mono ?_); rintro e w2 ⟨v2, rfl, o2, x2⟩; obtain ⟨L2, hL2⟩ : ∃ L2, L2 = L1 ++ enc q.seq := ⟨_, rfl⟩; rw [← hL2] at o2; have len2 : L2.length ≤ L1.length + 10 := (by rw [hL2]; try rw [List.length_append]; have := (enc_length q.seq).2; omega); have HL2 := Lib.hid hL2; obtain ⟨A2, c2, rfl, _, _, r2⟩ := Own.slice o2; have R2 := Lib.hid r2; have XB2 : Hid (Ext None_ (w.alloc (.cells #[.int .i64 q.ses, .int .i64 q.seq, .int .i64 q.c.kind, .int .i64 q.c.o.id, .int .i64 q.c.o.size, .int .i64 q.c.o.pick.p, .int .i64 q.c.o.pick.f, .int .i64 q.c.o.pick.t, .int .i64 q.c.o.pick.s, .int .i64 q.c.o.drop.p, .int .i64 q.c.o.drop.f, .int .i64 q.c.o.drop.t, .int .i64 q.c.o.drop.s, .int .i64 q.c.d.id, .int .i64 q.c.d.room, .int .i64 q.c.d.home, .int .i64 q.c.d.f, .int .i64 q.c.d.t, .bool q.c.d.ret, .int .i64 q.c.id, .int .i64 q.c.count] 70)) w2) := Lib.hid (by first | exact Ext.trans0 XB1.out x2 | exact Ext.trans0 XB1.out.drew x2 | exact Ext.trans0 XB1.out (Ext.trans0 ((Ext.refl _ _).drew) x2)); have hcc := And.intro (XB2.out.cell q0.out (fun a => a)) (And.intro (XB2.out.cell q1.out (fun a => a)) (XB2.out.cell q2.out (fun a => a))); clear hL2 o2 x2 r2)
    | (go_at_call 66; (with_reducible refine (rwNum_any A2 c2 L2 q.c.kind _ h2 (by first | exact R2.out | exact R2.out.drew) (by omega)).mono ?_); rintro e w3 ⟨v3, rfl, o3, x3⟩; obtain ⟨L3, hL3⟩ : ∃ L3, L3 = L2 ++ enc q.c.kind := ⟨_, rfl⟩; rw [← hL3] at o3; have len3 : L3.length ≤ L2.length + 10 := (by rw [hL3]; try rw [List.length_append]; have := (enc_length q.c.kind).2; omega); have HL3 := Lib.hid hL3; obtain ⟨A3, c3, rfl, _, _, r3⟩ := Own.slice o3; have R3 := Lib.hid r3; have XB3 : Hid (Ext None_ (w.alloc (.cells #[.int .i64 q.ses, .int .i64 q.seq, .int .i64 q.c.kind, .int .i64 q.c.o.id, .int .i64 q.c.o.size, .int .i64 q.c.o.pick.p, .int .i64 q.c.o.pick.f, .int .i64 q.c.o.pick.t, .int .i64 q.c.o.pick.s, .int .i64 q.c.o.drop.p, .int .i64 q.c.o.drop.f, .int .i64 q.c.o.drop.t, .int .i64 q.c.o.drop.s, .int .i64 q.c.d.id, .int .i64 q.c.d.room, .int .i64 q.c.d.home, .int .i64 q.c.d.f, .int .i64 q.c.d.t, .bool q.c.d.ret, .int .i64 q.c.id, .int .i64 q.c.count] 70)) w3) := Lib.hid (by first | exact Ext.trans0 XB2.out x3 | exact Ext.trans0 XB2.out.drew x3 | exact Ext.trans0 XB2.out (Ext.trans0 ((Ext.refl _ _).drew) x3)); have hcc := And.intro (XB3.out.cell q0.out (fun a => a)) (And.intro (XB3.out.cell q1.out (fun a => a)) (XB3.out.cell q2.out (fun a => a))); clear hL3 o3 x3 r3))
  have bc := (HB.out.ext0 XB3.out).cell
  go_wp2_with fail
  refine (rputOrd_any A3 c3 L3 q.c.o _ ho R3.out (by omega)).mono ?_
  rintro e w4 ⟨v4, rfl, o4, x4⟩
  clear bc
  obtain ⟨L4, hL4⟩ : ∃ L4, L4 = L3 ++ encOrd q.c.o := ⟨_, rfl⟩
  rw [← hL4] at o4
  have len4 : L4.length ≤ L3.length + 100 := (by rw [hL4]; try rw [List.length_append]; have := encOrd_len q.c.o; omega)
  have HL4 := Lib.hid hL4
  obtain ⟨A4, c4, rfl, _, _, r4⟩ := Own.slice o4
  have R4 := Lib.hid r4
  have XB4 : Hid (Ext None_ (w.alloc (.cells #[.int .i64 q.ses, .int .i64 q.seq, .int .i64 q.c.kind, .int .i64 q.c.o.id, .int .i64 q.c.o.size, .int .i64 q.c.o.pick.p, .int .i64 q.c.o.pick.f, .int .i64 q.c.o.pick.t, .int .i64 q.c.o.pick.s, .int .i64 q.c.o.drop.p, .int .i64 q.c.o.drop.f, .int .i64 q.c.o.drop.t, .int .i64 q.c.o.drop.s, .int .i64 q.c.d.id, .int .i64 q.c.d.room, .int .i64 q.c.d.home, .int .i64 q.c.d.f, .int .i64 q.c.d.t, .bool q.c.d.ret, .int .i64 q.c.id, .int .i64 q.c.count] 70)) w4) := Lib.hid (by first | exact Ext.trans0 XB3.out x4 | exact Ext.trans0 XB3.out.drew x4 | exact Ext.trans0 XB3.out (Ext.trans0 ((Ext.refl _ _).drew) x4))
  clear hL4 o4 x4 r4
  have conv := conv_string (src := 23) (dst := 9) (e := 5) Try.underlying23 Try.underlying5 Try.underlying9 (c := c4) R4.out
  go_wp2_with fail
  go_ret
  have e : encR q = L4 := by rw [HE.out, HL4.out, HL3.out, HL2.out, HL1.out]; simp only [List.append_assoc]
  rw [e]
  exact ⟨rfl, (x0 _ _).trans0 XB4.out⟩

set_option maxRecDepth 100000 in
set_option maxHeartbeats 8000000 in
theorem rencode2_any (q : Rq) (w : World) (hok : q.ok) (hk : q.c.kind = 2) (hr : rightB q.c = true) :
    Calls Try.prog 52 #[.agg q.cells] w fun e w' => e = .returned (.string (strOfNums (encR q))) ∧ Ext None_ w w' := by
  obtain ⟨h0, h1, h2, ho, hd, hi, hc⟩ := hok
  have hn : nmd q.c.kind = ⟨false, false, true, false, true⟩ := by simp [nmd, hk]
  have HE : Hid (encR q = enc q.ses ++ (enc q.seq ++ (enc q.c.kind ++ (enc q.c.id)))) := Lib.hid (by unfold encR encK; rw [if_pos hr, hn]; simp)
  have HR := Lib.hid (rRightT q.c hr)
  have e1 : (q.c.kind == 1) = false := by simp [hk]
  have e3 : (q.c.kind == 3) = false := by simp [hk]
  have e5 : (q.c.kind == 5) = false := by simp [hk]
  have e6 : (q.c.kind == 6) = false := by simp [hk]
  clear hr hn hk
  unfold Rq.cells
  have HB := Lib.hid (Blk.new w #[.int .i64 q.ses, .int .i64 q.seq, .int .i64 q.c.kind, .int .i64 q.c.o.id, .int .i64 q.c.o.size, .int .i64 q.c.o.pick.p, .int .i64 q.c.o.pick.f, .int .i64 q.c.o.pick.t, .int .i64 q.c.o.pick.s, .int .i64 q.c.o.drop.p, .int .i64 q.c.o.drop.f, .int .i64 q.c.o.drop.t, .int .i64 q.c.o.drop.s, .int .i64 q.c.d.id, .int .i64 q.c.d.room, .int .i64 q.c.d.home, .int .i64 q.c.d.f, .int .i64 q.c.d.t, .bool q.c.d.ret, .int .i64 q.c.id, .int .i64 q.c.count] 70)
  have q0 := Lib.hid (HB.out.cell 0)
  have q1 := Lib.hid (HB.out.cell 1)
  have q2 := Lib.hid (HB.out.cell 2)
  have bc := HB.out.cell
  go_enter Try.func52, Try.ntmps52
  go_wp2_with (refine wpList_load_mid rfl 68 (.tmp 4) rfl w.heap.size 2 rfl [.int .i64 q.c.kind, .int .i64 q.c.o.id, .int .i64 q.c.o.size, .int .i64 q.c.o.pick.p, .int .i64 q.c.o.pick.f, .int .i64 q.c.o.pick.t, .int .i64 q.c.o.pick.s, .int .i64 q.c.o.drop.p, .int .i64 q.c.o.drop.f, .int .i64 q.c.o.drop.t, .int .i64 q.c.o.drop.s, .int .i64 q.c.d.id, .int .i64 q.c.d.room, .int .i64 q.c.d.home, .int .i64 q.c.d.f, .int .i64 q.c.d.t, .bool q.c.d.ret, .int .i64 q.c.id, .int .i64 q.c.count] _ (HB.out.range 2 _ rfl) Try.underlying68 rfl cmdSize ?_)
  refine (HR.out _).mono ?_
  rintro e w0 ⟨rfl, XB0⟩
  replace XB0 := Lib.hid XB0
  clear bc
  have bc := (HB.out.ext0 XB0.out).cell
  go_wp2_with fail
  clear bc
  have CC : Hid ((fun W => W.cell? ⟨w.heap.size, 0, none⟩ = some (.int .i64 q.ses) ∧ W.cell? ⟨w.heap.size, 1, none⟩ = some (.int .i64 q.seq) ∧ W.cell? ⟨w.heap.size, 2, none⟩ = some (.int .i64 q.c.kind)) w0) := Lib.hid ⟨XB0.out.cell q0.out (fun a => a), XB0.out.cell q1.out (fun a => a), XB0.out.cell q2.out (fun a => a)⟩
  go_region_held3 (fun W => W.cell? ⟨w.heap.size, 0, none⟩ = some (.int .i64 q.ses) ∧ W.cell? ⟨w.heap.size, 1, none⟩ = some (.int .i64 q.seq) ∧ W.cell? ⟨w.heap.size, 2, none⟩ = some (.int .i64 q.c.kind)) (first | exact CC.out | (exact hcc) | (simp [*]; done)) (first
    | (go_at_call 66; (with_reducible refine (rwNum0_any q.ses _ h0 ).mono ?_); rintro e w1 ⟨v1, rfl, o1, x1⟩; obtain ⟨L1, hL1⟩ : ∃ L1, L1 = enc q.ses := ⟨_, rfl⟩; rw [← hL1] at o1; have len1 : L1.length ≤ 10 := (by rw [hL1]; exact (enc_length q.ses).2); have HL1 := Lib.hid hL1; obtain ⟨A1, c1, rfl, _, _, r1⟩ := Own.slice o1; have R1 := Lib.hid r1; have XB1 : Hid (Ext None_ (w.alloc (.cells #[.int .i64 q.ses, .int .i64 q.seq, .int .i64 q.c.kind, .int .i64 q.c.o.id, .int .i64 q.c.o.size, .int .i64 q.c.o.pick.p, .int .i64 q.c.o.pick.f, .int .i64 q.c.o.pick.t, .int .i64 q.c.o.pick.s, .int .i64 q.c.o.drop.p, .int .i64 q.c.o.drop.f, .int .i64 q.c.o.drop.t, .int .i64 q.c.o.drop.s, .int .i64 q.c.d.id, .int .i64 q.c.d.room, .int .i64 q.c.d.home, .int .i64 q.c.d.f, .int .i64 q.c.d.t, .bool q.c.d.ret, .int .i64 q.c.id, .int .i64 q.c.count] 70)) w1) := Lib.hid (by first | exact Ext.trans0 XB0.out x1 | exact Ext.trans0 XB0.out.drew x1 | exact Ext.trans0 XB0.out (Ext.trans0 ((Ext.refl _ _).drew) x1)); have hcc := And.intro (XB1.out.cell q0.out (fun a => a)) (And.intro (XB1.out.cell q1.out (fun a => a)) (XB1.out.cell q2.out (fun a => a))); clear hL1 o1 x1 r1)
    | (go_at_call 66; (with_reducible refine (rwNum_any A1 c1 L1 q.seq _ h1 (by first | exact R1.out | exact R1.out.drew) (by omega)).mono ?_); rintro e w2 ⟨v2, rfl, o2, x2⟩; obtain ⟨L2, hL2⟩ : ∃ L2, L2 = L1 ++ enc q.seq := ⟨_, rfl⟩; rw [← hL2] at o2; have len2 : L2.length ≤ L1.length + 10 := (by rw [hL2]; try rw [List.length_append]; have := (enc_length q.seq).2; omega); have HL2 := Lib.hid hL2; obtain ⟨A2, c2, rfl, _, _, r2⟩ := Own.slice o2; have R2 := Lib.hid r2; have XB2 : Hid (Ext None_ (w.alloc (.cells #[.int .i64 q.ses, .int .i64 q.seq, .int .i64 q.c.kind, .int .i64 q.c.o.id, .int .i64 q.c.o.size, .int .i64 q.c.o.pick.p, .int .i64 q.c.o.pick.f, .int .i64 q.c.o.pick.t, .int .i64 q.c.o.pick.s, .int .i64 q.c.o.drop.p, .int .i64 q.c.o.drop.f, .int .i64 q.c.o.drop.t, .int .i64 q.c.o.drop.s, .int .i64 q.c.d.id, .int .i64 q.c.d.room, .int .i64 q.c.d.home, .int .i64 q.c.d.f, .int .i64 q.c.d.t, .bool q.c.d.ret, .int .i64 q.c.id, .int .i64 q.c.count] 70)) w2) := Lib.hid (by first | exact Ext.trans0 XB1.out x2 | exact Ext.trans0 XB1.out.drew x2 | exact Ext.trans0 XB1.out (Ext.trans0 ((Ext.refl _ _).drew) x2)); have hcc := And.intro (XB2.out.cell q0.out (fun a => a)) (And.intro (XB2.out.cell q1.out (fun a => a)) (XB2.out.cell q2.out (fun a => a))); clear hL2 o2 x2 r2)
    | (go_at_call 66; (with_reducible refine (rwNum_any A2 c2 L2 q.c.kind _ h2 (by first | exact R2.out | exact R2.out.drew) (by omega)).mono ?_); rintro e w3 ⟨v3, rfl, o3, x3⟩; obtain ⟨L3, hL3⟩ : ∃ L3, L3 = L2 ++ enc q.c.kind := ⟨_, rfl⟩; rw [← hL3] at o3; have len3 : L3.length ≤ L2.length + 10 := (by rw [hL3]; try rw [List.length_append]; have := (enc_length q.c.kind).2; omega); have HL3 := Lib.hid hL3; obtain ⟨A3, c3, rfl, _, _, r3⟩ := Own.slice o3; have R3 := Lib.hid r3; have XB3 : Hid (Ext None_ (w.alloc (.cells #[.int .i64 q.ses, .int .i64 q.seq, .int .i64 q.c.kind, .int .i64 q.c.o.id, .int .i64 q.c.o.size, .int .i64 q.c.o.pick.p, .int .i64 q.c.o.pick.f, .int .i64 q.c.o.pick.t, .int .i64 q.c.o.pick.s, .int .i64 q.c.o.drop.p, .int .i64 q.c.o.drop.f, .int .i64 q.c.o.drop.t, .int .i64 q.c.o.drop.s, .int .i64 q.c.d.id, .int .i64 q.c.d.room, .int .i64 q.c.d.home, .int .i64 q.c.d.f, .int .i64 q.c.d.t, .bool q.c.d.ret, .int .i64 q.c.id, .int .i64 q.c.count] 70)) w3) := Lib.hid (by first | exact Ext.trans0 XB2.out x3 | exact Ext.trans0 XB2.out.drew x3 | exact Ext.trans0 XB2.out (Ext.trans0 ((Ext.refl _ _).drew) x3)); have hcc := And.intro (XB3.out.cell q0.out (fun a => a)) (And.intro (XB3.out.cell q1.out (fun a => a)) (XB3.out.cell q2.out (fun a => a))); clear hL3 o3 x3 r3))
  have bc := (HB.out.ext0 XB3.out).cell
  go_wp2_with fail
  refine (rwNum_any A3 c3 L3 q.c.id _ hi R3.out (by omega)).mono ?_
  rintro e w4 ⟨v4, rfl, o4, x4⟩
  clear bc
  obtain ⟨L4, hL4⟩ : ∃ L4, L4 = L3 ++ enc q.c.id := ⟨_, rfl⟩
  rw [← hL4] at o4
  have len4 : L4.length ≤ L3.length + 10 := (by rw [hL4]; try rw [List.length_append]; have := (enc_length q.c.id).2; omega)
  have HL4 := Lib.hid hL4
  obtain ⟨A4, c4, rfl, _, _, r4⟩ := Own.slice o4
  have R4 := Lib.hid r4
  have XB4 : Hid (Ext None_ (w.alloc (.cells #[.int .i64 q.ses, .int .i64 q.seq, .int .i64 q.c.kind, .int .i64 q.c.o.id, .int .i64 q.c.o.size, .int .i64 q.c.o.pick.p, .int .i64 q.c.o.pick.f, .int .i64 q.c.o.pick.t, .int .i64 q.c.o.pick.s, .int .i64 q.c.o.drop.p, .int .i64 q.c.o.drop.f, .int .i64 q.c.o.drop.t, .int .i64 q.c.o.drop.s, .int .i64 q.c.d.id, .int .i64 q.c.d.room, .int .i64 q.c.d.home, .int .i64 q.c.d.f, .int .i64 q.c.d.t, .bool q.c.d.ret, .int .i64 q.c.id, .int .i64 q.c.count] 70)) w4) := Lib.hid (by first | exact Ext.trans0 XB3.out x4 | exact Ext.trans0 XB3.out.drew x4 | exact Ext.trans0 XB3.out (Ext.trans0 ((Ext.refl _ _).drew) x4))
  clear hL4 o4 x4 r4
  have conv := conv_string (src := 23) (dst := 9) (e := 5) Try.underlying23 Try.underlying5 Try.underlying9 (c := c4) R4.out
  go_wp2_with fail
  go_ret
  have e : encR q = L4 := by rw [HE.out, HL4.out, HL3.out, HL2.out, HL1.out]; simp only [List.append_assoc]
  rw [e]
  exact ⟨rfl, (x0 _ _).trans0 XB4.out⟩

set_option maxRecDepth 100000 in
set_option maxHeartbeats 8000000 in
theorem rencode4_any (q : Rq) (w : World) (hok : q.ok) (hk : q.c.kind = 4) (hr : rightB q.c = true) :
    Calls Try.prog 52 #[.agg q.cells] w fun e w' => e = .returned (.string (strOfNums (encR q))) ∧ Ext None_ w w' := by
  obtain ⟨h0, h1, h2, ho, hd, hi, hc⟩ := hok
  have hn : nmd q.c.kind = ⟨false, false, true, false, true⟩ := by simp [nmd, hk]
  have HE : Hid (encR q = enc q.ses ++ (enc q.seq ++ (enc q.c.kind ++ (enc q.c.id)))) := Lib.hid (by unfold encR encK; rw [if_pos hr, hn]; simp)
  have HR := Lib.hid (rRightT q.c hr)
  have e1 : (q.c.kind == 1) = false := by simp [hk]
  have e3 : (q.c.kind == 3) = false := by simp [hk]
  have e5 : (q.c.kind == 5) = false := by simp [hk]
  have e6 : (q.c.kind == 6) = false := by simp [hk]
  clear hr hn hk
  unfold Rq.cells
  have HB := Lib.hid (Blk.new w #[.int .i64 q.ses, .int .i64 q.seq, .int .i64 q.c.kind, .int .i64 q.c.o.id, .int .i64 q.c.o.size, .int .i64 q.c.o.pick.p, .int .i64 q.c.o.pick.f, .int .i64 q.c.o.pick.t, .int .i64 q.c.o.pick.s, .int .i64 q.c.o.drop.p, .int .i64 q.c.o.drop.f, .int .i64 q.c.o.drop.t, .int .i64 q.c.o.drop.s, .int .i64 q.c.d.id, .int .i64 q.c.d.room, .int .i64 q.c.d.home, .int .i64 q.c.d.f, .int .i64 q.c.d.t, .bool q.c.d.ret, .int .i64 q.c.id, .int .i64 q.c.count] 70)
  have q0 := Lib.hid (HB.out.cell 0)
  have q1 := Lib.hid (HB.out.cell 1)
  have q2 := Lib.hid (HB.out.cell 2)
  have bc := HB.out.cell
  go_enter Try.func52, Try.ntmps52
  go_wp2_with (refine wpList_load_mid rfl 68 (.tmp 4) rfl w.heap.size 2 rfl [.int .i64 q.c.kind, .int .i64 q.c.o.id, .int .i64 q.c.o.size, .int .i64 q.c.o.pick.p, .int .i64 q.c.o.pick.f, .int .i64 q.c.o.pick.t, .int .i64 q.c.o.pick.s, .int .i64 q.c.o.drop.p, .int .i64 q.c.o.drop.f, .int .i64 q.c.o.drop.t, .int .i64 q.c.o.drop.s, .int .i64 q.c.d.id, .int .i64 q.c.d.room, .int .i64 q.c.d.home, .int .i64 q.c.d.f, .int .i64 q.c.d.t, .bool q.c.d.ret, .int .i64 q.c.id, .int .i64 q.c.count] _ (HB.out.range 2 _ rfl) Try.underlying68 rfl cmdSize ?_)
  refine (HR.out _).mono ?_
  rintro e w0 ⟨rfl, XB0⟩
  replace XB0 := Lib.hid XB0
  clear bc
  have bc := (HB.out.ext0 XB0.out).cell
  go_wp2_with fail
  clear bc
  have CC : Hid ((fun W => W.cell? ⟨w.heap.size, 0, none⟩ = some (.int .i64 q.ses) ∧ W.cell? ⟨w.heap.size, 1, none⟩ = some (.int .i64 q.seq) ∧ W.cell? ⟨w.heap.size, 2, none⟩ = some (.int .i64 q.c.kind)) w0) := Lib.hid ⟨XB0.out.cell q0.out (fun a => a), XB0.out.cell q1.out (fun a => a), XB0.out.cell q2.out (fun a => a)⟩
  go_region_held3 (fun W => W.cell? ⟨w.heap.size, 0, none⟩ = some (.int .i64 q.ses) ∧ W.cell? ⟨w.heap.size, 1, none⟩ = some (.int .i64 q.seq) ∧ W.cell? ⟨w.heap.size, 2, none⟩ = some (.int .i64 q.c.kind)) (first | exact CC.out | (exact hcc) | (simp [*]; done)) (first
    | (go_at_call 66; (with_reducible refine (rwNum0_any q.ses _ h0 ).mono ?_); rintro e w1 ⟨v1, rfl, o1, x1⟩; obtain ⟨L1, hL1⟩ : ∃ L1, L1 = enc q.ses := ⟨_, rfl⟩; rw [← hL1] at o1; have len1 : L1.length ≤ 10 := (by rw [hL1]; exact (enc_length q.ses).2); have HL1 := Lib.hid hL1; obtain ⟨A1, c1, rfl, _, _, r1⟩ := Own.slice o1; have R1 := Lib.hid r1; have XB1 : Hid (Ext None_ (w.alloc (.cells #[.int .i64 q.ses, .int .i64 q.seq, .int .i64 q.c.kind, .int .i64 q.c.o.id, .int .i64 q.c.o.size, .int .i64 q.c.o.pick.p, .int .i64 q.c.o.pick.f, .int .i64 q.c.o.pick.t, .int .i64 q.c.o.pick.s, .int .i64 q.c.o.drop.p, .int .i64 q.c.o.drop.f, .int .i64 q.c.o.drop.t, .int .i64 q.c.o.drop.s, .int .i64 q.c.d.id, .int .i64 q.c.d.room, .int .i64 q.c.d.home, .int .i64 q.c.d.f, .int .i64 q.c.d.t, .bool q.c.d.ret, .int .i64 q.c.id, .int .i64 q.c.count] 70)) w1) := Lib.hid (by first | exact Ext.trans0 XB0.out x1 | exact Ext.trans0 XB0.out.drew x1 | exact Ext.trans0 XB0.out (Ext.trans0 ((Ext.refl _ _).drew) x1)); have hcc := And.intro (XB1.out.cell q0.out (fun a => a)) (And.intro (XB1.out.cell q1.out (fun a => a)) (XB1.out.cell q2.out (fun a => a))); clear hL1 o1 x1 r1)
    | (go_at_call 66; (with_reducible refine (rwNum_any A1 c1 L1 q.seq _ h1 (by first | exact R1.out | exact R1.out.drew) (by omega)).mono ?_); rintro e w2 ⟨v2, rfl, o2, x2⟩; obtain ⟨L2, hL2⟩ : ∃ L2, L2 = L1 ++ enc q.seq := ⟨_, rfl⟩; rw [← hL2] at o2; have len2 : L2.length ≤ L1.length + 10 := (by rw [hL2]; try rw [List.length_append]; have := (enc_length q.seq).2; omega); have HL2 := Lib.hid hL2; obtain ⟨A2, c2, rfl, _, _, r2⟩ := Own.slice o2; have R2 := Lib.hid r2; have XB2 : Hid (Ext None_ (w.alloc (.cells #[.int .i64 q.ses, .int .i64 q.seq, .int .i64 q.c.kind, .int .i64 q.c.o.id, .int .i64 q.c.o.size, .int .i64 q.c.o.pick.p, .int .i64 q.c.o.pick.f, .int .i64 q.c.o.pick.t, .int .i64 q.c.o.pick.s, .int .i64 q.c.o.drop.p, .int .i64 q.c.o.drop.f, .int .i64 q.c.o.drop.t, .int .i64 q.c.o.drop.s, .int .i64 q.c.d.id, .int .i64 q.c.d.room, .int .i64 q.c.d.home, .int .i64 q.c.d.f, .int .i64 q.c.d.t, .bool q.c.d.ret, .int .i64 q.c.id, .int .i64 q.c.count] 70)) w2) := Lib.hid (by first | exact Ext.trans0 XB1.out x2 | exact Ext.trans0 XB1.out.drew x2 | exact Ext.trans0 XB1.out (Ext.trans0 ((Ext.refl _ _).drew) x2)); have hcc := And.intro (XB2.out.cell q0.out (fun a => a)) (And.intro (XB2.out.cell q1.out (fun a => a)) (XB2.out.cell q2.out (fun a => a))); clear hL2 o2 x2 r2)
    | (go_at_call 66; (with_reducible refine (rwNum_any A2 c2 L2 q.c.kind _ h2 (by first | exact R2.out | exact R2.out.drew) (by omega)).mono ?_); rintro e w3 ⟨v3, rfl, o3, x3⟩; obtain ⟨L3, hL3⟩ : ∃ L3, L3 = L2 ++ enc q.c.kind := ⟨_, rfl⟩; rw [← hL3] at o3; have len3 : L3.length ≤ L2.length + 10 := (by rw [hL3]; try rw [List.length_append]; have := (enc_length q.c.kind).2; omega); have HL3 := Lib.hid hL3; obtain ⟨A3, c3, rfl, _, _, r3⟩ := Own.slice o3; have R3 := Lib.hid r3; have XB3 : Hid (Ext None_ (w.alloc (.cells #[.int .i64 q.ses, .int .i64 q.seq, .int .i64 q.c.kind, .int .i64 q.c.o.id, .int .i64 q.c.o.size, .int .i64 q.c.o.pick.p, .int .i64 q.c.o.pick.f, .int .i64 q.c.o.pick.t, .int .i64 q.c.o.pick.s, .int .i64 q.c.o.drop.p, .int .i64 q.c.o.drop.f, .int .i64 q.c.o.drop.t, .int .i64 q.c.o.drop.s, .int .i64 q.c.d.id, .int .i64 q.c.d.room, .int .i64 q.c.d.home, .int .i64 q.c.d.f, .int .i64 q.c.d.t, .bool q.c.d.ret, .int .i64 q.c.id, .int .i64 q.c.count] 70)) w3) := Lib.hid (by first | exact Ext.trans0 XB2.out x3 | exact Ext.trans0 XB2.out.drew x3 | exact Ext.trans0 XB2.out (Ext.trans0 ((Ext.refl _ _).drew) x3)); have hcc := And.intro (XB3.out.cell q0.out (fun a => a)) (And.intro (XB3.out.cell q1.out (fun a => a)) (XB3.out.cell q2.out (fun a => a))); clear hL3 o3 x3 r3))
  have bc := (HB.out.ext0 XB3.out).cell
  go_wp2_with fail
  refine (rwNum_any A3 c3 L3 q.c.id _ hi R3.out (by omega)).mono ?_
  rintro e w4 ⟨v4, rfl, o4, x4⟩
  clear bc
  obtain ⟨L4, hL4⟩ : ∃ L4, L4 = L3 ++ enc q.c.id := ⟨_, rfl⟩
  rw [← hL4] at o4
  have len4 : L4.length ≤ L3.length + 10 := (by rw [hL4]; try rw [List.length_append]; have := (enc_length q.c.id).2; omega)
  have HL4 := Lib.hid hL4
  obtain ⟨A4, c4, rfl, _, _, r4⟩ := Own.slice o4
  have R4 := Lib.hid r4
  have XB4 : Hid (Ext None_ (w.alloc (.cells #[.int .i64 q.ses, .int .i64 q.seq, .int .i64 q.c.kind, .int .i64 q.c.o.id, .int .i64 q.c.o.size, .int .i64 q.c.o.pick.p, .int .i64 q.c.o.pick.f, .int .i64 q.c.o.pick.t, .int .i64 q.c.o.pick.s, .int .i64 q.c.o.drop.p, .int .i64 q.c.o.drop.f, .int .i64 q.c.o.drop.t, .int .i64 q.c.o.drop.s, .int .i64 q.c.d.id, .int .i64 q.c.d.room, .int .i64 q.c.d.home, .int .i64 q.c.d.f, .int .i64 q.c.d.t, .bool q.c.d.ret, .int .i64 q.c.id, .int .i64 q.c.count] 70)) w4) := Lib.hid (by first | exact Ext.trans0 XB3.out x4 | exact Ext.trans0 XB3.out.drew x4 | exact Ext.trans0 XB3.out (Ext.trans0 ((Ext.refl _ _).drew) x4))
  clear hL4 o4 x4 r4
  have conv := conv_string (src := 23) (dst := 9) (e := 5) Try.underlying23 Try.underlying5 Try.underlying9 (c := c4) R4.out
  go_wp2_with fail
  go_ret
  have e : encR q = L4 := by rw [HE.out, HL4.out, HL3.out, HL2.out, HL1.out]; simp only [List.append_assoc]
  rw [e]
  exact ⟨rfl, (x0 _ _).trans0 XB4.out⟩

set_option maxRecDepth 100000 in
set_option maxHeartbeats 8000000 in
theorem rencode7_any (q : Rq) (w : World) (hok : q.ok) (hk : q.c.kind = 7) (hr : rightB q.c = true) :
    Calls Try.prog 52 #[.agg q.cells] w fun e w' => e = .returned (.string (strOfNums (encR q))) ∧ Ext None_ w w' := by
  obtain ⟨h0, h1, h2, ho, hd, hi, hc⟩ := hok
  have hn : nmd q.c.kind = ⟨false, false, true, false, true⟩ := by simp [nmd, hk]
  have HE : Hid (encR q = enc q.ses ++ (enc q.seq ++ (enc q.c.kind ++ (enc q.c.id)))) := Lib.hid (by unfold encR encK; rw [if_pos hr, hn]; simp)
  have HR := Lib.hid (rRightT q.c hr)
  have e1 : (q.c.kind == 1) = false := by simp [hk]
  have e3 : (q.c.kind == 3) = false := by simp [hk]
  have e5 : (q.c.kind == 5) = false := by simp [hk]
  have e6 : (q.c.kind == 6) = false := by simp [hk]
  clear hr hn hk
  unfold Rq.cells
  have HB := Lib.hid (Blk.new w #[.int .i64 q.ses, .int .i64 q.seq, .int .i64 q.c.kind, .int .i64 q.c.o.id, .int .i64 q.c.o.size, .int .i64 q.c.o.pick.p, .int .i64 q.c.o.pick.f, .int .i64 q.c.o.pick.t, .int .i64 q.c.o.pick.s, .int .i64 q.c.o.drop.p, .int .i64 q.c.o.drop.f, .int .i64 q.c.o.drop.t, .int .i64 q.c.o.drop.s, .int .i64 q.c.d.id, .int .i64 q.c.d.room, .int .i64 q.c.d.home, .int .i64 q.c.d.f, .int .i64 q.c.d.t, .bool q.c.d.ret, .int .i64 q.c.id, .int .i64 q.c.count] 70)
  have q0 := Lib.hid (HB.out.cell 0)
  have q1 := Lib.hid (HB.out.cell 1)
  have q2 := Lib.hid (HB.out.cell 2)
  have bc := HB.out.cell
  go_enter Try.func52, Try.ntmps52
  go_wp2_with (refine wpList_load_mid rfl 68 (.tmp 4) rfl w.heap.size 2 rfl [.int .i64 q.c.kind, .int .i64 q.c.o.id, .int .i64 q.c.o.size, .int .i64 q.c.o.pick.p, .int .i64 q.c.o.pick.f, .int .i64 q.c.o.pick.t, .int .i64 q.c.o.pick.s, .int .i64 q.c.o.drop.p, .int .i64 q.c.o.drop.f, .int .i64 q.c.o.drop.t, .int .i64 q.c.o.drop.s, .int .i64 q.c.d.id, .int .i64 q.c.d.room, .int .i64 q.c.d.home, .int .i64 q.c.d.f, .int .i64 q.c.d.t, .bool q.c.d.ret, .int .i64 q.c.id, .int .i64 q.c.count] _ (HB.out.range 2 _ rfl) Try.underlying68 rfl cmdSize ?_)
  refine (HR.out _).mono ?_
  rintro e w0 ⟨rfl, XB0⟩
  replace XB0 := Lib.hid XB0
  clear bc
  have bc := (HB.out.ext0 XB0.out).cell
  go_wp2_with fail
  clear bc
  have CC : Hid ((fun W => W.cell? ⟨w.heap.size, 0, none⟩ = some (.int .i64 q.ses) ∧ W.cell? ⟨w.heap.size, 1, none⟩ = some (.int .i64 q.seq) ∧ W.cell? ⟨w.heap.size, 2, none⟩ = some (.int .i64 q.c.kind)) w0) := Lib.hid ⟨XB0.out.cell q0.out (fun a => a), XB0.out.cell q1.out (fun a => a), XB0.out.cell q2.out (fun a => a)⟩
  go_region_held3 (fun W => W.cell? ⟨w.heap.size, 0, none⟩ = some (.int .i64 q.ses) ∧ W.cell? ⟨w.heap.size, 1, none⟩ = some (.int .i64 q.seq) ∧ W.cell? ⟨w.heap.size, 2, none⟩ = some (.int .i64 q.c.kind)) (first | exact CC.out | (exact hcc) | (simp [*]; done)) (first
    | (go_at_call 66; (with_reducible refine (rwNum0_any q.ses _ h0 ).mono ?_); rintro e w1 ⟨v1, rfl, o1, x1⟩; obtain ⟨L1, hL1⟩ : ∃ L1, L1 = enc q.ses := ⟨_, rfl⟩; rw [← hL1] at o1; have len1 : L1.length ≤ 10 := (by rw [hL1]; exact (enc_length q.ses).2); have HL1 := Lib.hid hL1; obtain ⟨A1, c1, rfl, _, _, r1⟩ := Own.slice o1; have R1 := Lib.hid r1; have XB1 : Hid (Ext None_ (w.alloc (.cells #[.int .i64 q.ses, .int .i64 q.seq, .int .i64 q.c.kind, .int .i64 q.c.o.id, .int .i64 q.c.o.size, .int .i64 q.c.o.pick.p, .int .i64 q.c.o.pick.f, .int .i64 q.c.o.pick.t, .int .i64 q.c.o.pick.s, .int .i64 q.c.o.drop.p, .int .i64 q.c.o.drop.f, .int .i64 q.c.o.drop.t, .int .i64 q.c.o.drop.s, .int .i64 q.c.d.id, .int .i64 q.c.d.room, .int .i64 q.c.d.home, .int .i64 q.c.d.f, .int .i64 q.c.d.t, .bool q.c.d.ret, .int .i64 q.c.id, .int .i64 q.c.count] 70)) w1) := Lib.hid (by first | exact Ext.trans0 XB0.out x1 | exact Ext.trans0 XB0.out.drew x1 | exact Ext.trans0 XB0.out (Ext.trans0 ((Ext.refl _ _).drew) x1)); have hcc := And.intro (XB1.out.cell q0.out (fun a => a)) (And.intro (XB1.out.cell q1.out (fun a => a)) (XB1.out.cell q2.out (fun a => a))); clear hL1 o1 x1 r1)
    | (go_at_call 66; (with_reducible refine (rwNum_any A1 c1 L1 q.seq _ h1 (by first | exact R1.out | exact R1.out.drew) (by omega)).mono ?_); rintro e w2 ⟨v2, rfl, o2, x2⟩; obtain ⟨L2, hL2⟩ : ∃ L2, L2 = L1 ++ enc q.seq := ⟨_, rfl⟩; rw [← hL2] at o2; have len2 : L2.length ≤ L1.length + 10 := (by rw [hL2]; try rw [List.length_append]; have := (enc_length q.seq).2; omega); have HL2 := Lib.hid hL2; obtain ⟨A2, c2, rfl, _, _, r2⟩ := Own.slice o2; have R2 := Lib.hid r2; have XB2 : Hid (Ext None_ (w.alloc (.cells #[.int .i64 q.ses, .int .i64 q.seq, .int .i64 q.c.kind, .int .i64 q.c.o.id, .int .i64 q.c.o.size, .int .i64 q.c.o.pick.p, .int .i64 q.c.o.pick.f, .int .i64 q.c.o.pick.t, .int .i64 q.c.o.pick.s, .int .i64 q.c.o.drop.p, .int .i64 q.c.o.drop.f, .int .i64 q.c.o.drop.t, .int .i64 q.c.o.drop.s, .int .i64 q.c.d.id, .int .i64 q.c.d.room, .int .i64 q.c.d.home, .int .i64 q.c.d.f, .int .i64 q.c.d.t, .bool q.c.d.ret, .int .i64 q.c.id, .int .i64 q.c.count] 70)) w2) := Lib.hid (by first | exact Ext.trans0 XB1.out x2 | exact Ext.trans0 XB1.out.drew x2 | exact Ext.trans0 XB1.out (Ext.trans0 ((Ext.refl _ _).drew) x2)); have hcc := And.intro (XB2.out.cell q0.out (fun a => a)) (And.intro (XB2.out.cell q1.out (fun a => a)) (XB2.out.cell q2.out (fun a => a))); clear hL2 o2 x2 r2)
    | (go_at_call 66; (with_reducible refine (rwNum_any A2 c2 L2 q.c.kind _ h2 (by first | exact R2.out | exact R2.out.drew) (by omega)).mono ?_); rintro e w3 ⟨v3, rfl, o3, x3⟩; obtain ⟨L3, hL3⟩ : ∃ L3, L3 = L2 ++ enc q.c.kind := ⟨_, rfl⟩; rw [← hL3] at o3; have len3 : L3.length ≤ L2.length + 10 := (by rw [hL3]; try rw [List.length_append]; have := (enc_length q.c.kind).2; omega); have HL3 := Lib.hid hL3; obtain ⟨A3, c3, rfl, _, _, r3⟩ := Own.slice o3; have R3 := Lib.hid r3; have XB3 : Hid (Ext None_ (w.alloc (.cells #[.int .i64 q.ses, .int .i64 q.seq, .int .i64 q.c.kind, .int .i64 q.c.o.id, .int .i64 q.c.o.size, .int .i64 q.c.o.pick.p, .int .i64 q.c.o.pick.f, .int .i64 q.c.o.pick.t, .int .i64 q.c.o.pick.s, .int .i64 q.c.o.drop.p, .int .i64 q.c.o.drop.f, .int .i64 q.c.o.drop.t, .int .i64 q.c.o.drop.s, .int .i64 q.c.d.id, .int .i64 q.c.d.room, .int .i64 q.c.d.home, .int .i64 q.c.d.f, .int .i64 q.c.d.t, .bool q.c.d.ret, .int .i64 q.c.id, .int .i64 q.c.count] 70)) w3) := Lib.hid (by first | exact Ext.trans0 XB2.out x3 | exact Ext.trans0 XB2.out.drew x3 | exact Ext.trans0 XB2.out (Ext.trans0 ((Ext.refl _ _).drew) x3)); have hcc := And.intro (XB3.out.cell q0.out (fun a => a)) (And.intro (XB3.out.cell q1.out (fun a => a)) (XB3.out.cell q2.out (fun a => a))); clear hL3 o3 x3 r3))
  have bc := (HB.out.ext0 XB3.out).cell
  go_wp2_with fail
  refine (rwNum_any A3 c3 L3 q.c.id _ hi R3.out (by omega)).mono ?_
  rintro e w4 ⟨v4, rfl, o4, x4⟩
  clear bc
  obtain ⟨L4, hL4⟩ : ∃ L4, L4 = L3 ++ enc q.c.id := ⟨_, rfl⟩
  rw [← hL4] at o4
  have len4 : L4.length ≤ L3.length + 10 := (by rw [hL4]; try rw [List.length_append]; have := (enc_length q.c.id).2; omega)
  have HL4 := Lib.hid hL4
  obtain ⟨A4, c4, rfl, _, _, r4⟩ := Own.slice o4
  have R4 := Lib.hid r4
  have XB4 : Hid (Ext None_ (w.alloc (.cells #[.int .i64 q.ses, .int .i64 q.seq, .int .i64 q.c.kind, .int .i64 q.c.o.id, .int .i64 q.c.o.size, .int .i64 q.c.o.pick.p, .int .i64 q.c.o.pick.f, .int .i64 q.c.o.pick.t, .int .i64 q.c.o.pick.s, .int .i64 q.c.o.drop.p, .int .i64 q.c.o.drop.f, .int .i64 q.c.o.drop.t, .int .i64 q.c.o.drop.s, .int .i64 q.c.d.id, .int .i64 q.c.d.room, .int .i64 q.c.d.home, .int .i64 q.c.d.f, .int .i64 q.c.d.t, .bool q.c.d.ret, .int .i64 q.c.id, .int .i64 q.c.count] 70)) w4) := Lib.hid (by first | exact Ext.trans0 XB3.out x4 | exact Ext.trans0 XB3.out.drew x4 | exact Ext.trans0 XB3.out (Ext.trans0 ((Ext.refl _ _).drew) x4))
  clear hL4 o4 x4 r4
  have conv := conv_string (src := 23) (dst := 9) (e := 5) Try.underlying23 Try.underlying5 Try.underlying9 (c := c4) R4.out
  go_wp2_with fail
  go_ret
  have e : encR q = L4 := by rw [HE.out, HL4.out, HL3.out, HL2.out, HL1.out]; simp only [List.append_assoc]
  rw [e]
  exact ⟨rfl, (x0 _ _).trans0 XB4.out⟩

set_option maxRecDepth 100000 in
set_option maxHeartbeats 8000000 in
theorem rencode3_any (q : Rq) (w : World) (hok : q.ok) (hk : q.c.kind = 3) (hr : rightB q.c = true) :
    Calls Try.prog 52 #[.agg q.cells] w fun e w' => e = .returned (.string (strOfNums (encR q))) ∧ Ext None_ w w' := by
  obtain ⟨h0, h1, h2, ho, hd, hi, hc⟩ := hok
  have hn : nmd q.c.kind = ⟨false, true, false, false, true⟩ := by simp [nmd, hk]
  have HE : Hid (encR q = enc q.ses ++ (enc q.seq ++ (enc q.c.kind ++ (encDrv q.c.d)))) := Lib.hid (by unfold encR encK; rw [if_pos hr, hn]; simp)
  have HR := Lib.hid (rRightT q.c hr)
  have e1 : (q.c.kind == 1) = false := by simp [hk]
  have e3 : (q.c.kind == 3) = true := by simp [hk]
  have e5 : (q.c.kind == 5) = false := by simp [hk]
  have e6 : (q.c.kind == 6) = false := by simp [hk]
  clear hr hn hk
  unfold Rq.cells
  have HB := Lib.hid (Blk.new w #[.int .i64 q.ses, .int .i64 q.seq, .int .i64 q.c.kind, .int .i64 q.c.o.id, .int .i64 q.c.o.size, .int .i64 q.c.o.pick.p, .int .i64 q.c.o.pick.f, .int .i64 q.c.o.pick.t, .int .i64 q.c.o.pick.s, .int .i64 q.c.o.drop.p, .int .i64 q.c.o.drop.f, .int .i64 q.c.o.drop.t, .int .i64 q.c.o.drop.s, .int .i64 q.c.d.id, .int .i64 q.c.d.room, .int .i64 q.c.d.home, .int .i64 q.c.d.f, .int .i64 q.c.d.t, .bool q.c.d.ret, .int .i64 q.c.id, .int .i64 q.c.count] 70)
  have q0 := Lib.hid (HB.out.cell 0)
  have q1 := Lib.hid (HB.out.cell 1)
  have q2 := Lib.hid (HB.out.cell 2)
  have bc := HB.out.cell
  go_enter Try.func52, Try.ntmps52
  go_wp2_with (refine wpList_load_mid rfl 68 (.tmp 4) rfl w.heap.size 2 rfl [.int .i64 q.c.kind, .int .i64 q.c.o.id, .int .i64 q.c.o.size, .int .i64 q.c.o.pick.p, .int .i64 q.c.o.pick.f, .int .i64 q.c.o.pick.t, .int .i64 q.c.o.pick.s, .int .i64 q.c.o.drop.p, .int .i64 q.c.o.drop.f, .int .i64 q.c.o.drop.t, .int .i64 q.c.o.drop.s, .int .i64 q.c.d.id, .int .i64 q.c.d.room, .int .i64 q.c.d.home, .int .i64 q.c.d.f, .int .i64 q.c.d.t, .bool q.c.d.ret, .int .i64 q.c.id, .int .i64 q.c.count] _ (HB.out.range 2 _ rfl) Try.underlying68 rfl cmdSize ?_)
  refine (HR.out _).mono ?_
  rintro e w0 ⟨rfl, XB0⟩
  replace XB0 := Lib.hid XB0
  clear bc
  have bc := (HB.out.ext0 XB0.out).cell
  go_wp2_with fail
  clear bc
  have CC : Hid ((fun W => W.cell? ⟨w.heap.size, 0, none⟩ = some (.int .i64 q.ses) ∧ W.cell? ⟨w.heap.size, 1, none⟩ = some (.int .i64 q.seq) ∧ W.cell? ⟨w.heap.size, 2, none⟩ = some (.int .i64 q.c.kind)) w0) := Lib.hid ⟨XB0.out.cell q0.out (fun a => a), XB0.out.cell q1.out (fun a => a), XB0.out.cell q2.out (fun a => a)⟩
  go_region_held3 (fun W => W.cell? ⟨w.heap.size, 0, none⟩ = some (.int .i64 q.ses) ∧ W.cell? ⟨w.heap.size, 1, none⟩ = some (.int .i64 q.seq) ∧ W.cell? ⟨w.heap.size, 2, none⟩ = some (.int .i64 q.c.kind)) (first | exact CC.out | (exact hcc) | (simp [*]; done)) (first
    | (go_at_call 66; (with_reducible refine (rwNum0_any q.ses _ h0 ).mono ?_); rintro e w1 ⟨v1, rfl, o1, x1⟩; obtain ⟨L1, hL1⟩ : ∃ L1, L1 = enc q.ses := ⟨_, rfl⟩; rw [← hL1] at o1; have len1 : L1.length ≤ 10 := (by rw [hL1]; exact (enc_length q.ses).2); have HL1 := Lib.hid hL1; obtain ⟨A1, c1, rfl, _, _, r1⟩ := Own.slice o1; have R1 := Lib.hid r1; have XB1 : Hid (Ext None_ (w.alloc (.cells #[.int .i64 q.ses, .int .i64 q.seq, .int .i64 q.c.kind, .int .i64 q.c.o.id, .int .i64 q.c.o.size, .int .i64 q.c.o.pick.p, .int .i64 q.c.o.pick.f, .int .i64 q.c.o.pick.t, .int .i64 q.c.o.pick.s, .int .i64 q.c.o.drop.p, .int .i64 q.c.o.drop.f, .int .i64 q.c.o.drop.t, .int .i64 q.c.o.drop.s, .int .i64 q.c.d.id, .int .i64 q.c.d.room, .int .i64 q.c.d.home, .int .i64 q.c.d.f, .int .i64 q.c.d.t, .bool q.c.d.ret, .int .i64 q.c.id, .int .i64 q.c.count] 70)) w1) := Lib.hid (by first | exact Ext.trans0 XB0.out x1 | exact Ext.trans0 XB0.out.drew x1 | exact Ext.trans0 XB0.out (Ext.trans0 ((Ext.refl _ _).drew) x1)); have hcc := And.intro (XB1.out.cell q0.out (fun a => a)) (And.intro (XB1.out.cell q1.out (fun a => a)) (XB1.out.cell q2.out (fun a => a))); clear hL1 o1 x1 r1)
    | (go_at_call 66; (with_reducible refine (rwNum_any A1 c1 L1 q.seq _ h1 (by first | exact R1.out | exact R1.out.drew) (by omega)).mono ?_); rintro e w2 ⟨v2, rfl, o2, x2⟩; obtain ⟨L2, hL2⟩ : ∃ L2, L2 = L1 ++ enc q.seq := ⟨_, rfl⟩; rw [← hL2] at o2; have len2 : L2.length ≤ L1.length + 10 := (by rw [hL2]; try rw [List.length_append]; have := (enc_length q.seq).2; omega); have HL2 := Lib.hid hL2; obtain ⟨A2, c2, rfl, _, _, r2⟩ := Own.slice o2; have R2 := Lib.hid r2; have XB2 : Hid (Ext None_ (w.alloc (.cells #[.int .i64 q.ses, .int .i64 q.seq, .int .i64 q.c.kind, .int .i64 q.c.o.id, .int .i64 q.c.o.size, .int .i64 q.c.o.pick.p, .int .i64 q.c.o.pick.f, .int .i64 q.c.o.pick.t, .int .i64 q.c.o.pick.s, .int .i64 q.c.o.drop.p, .int .i64 q.c.o.drop.f, .int .i64 q.c.o.drop.t, .int .i64 q.c.o.drop.s, .int .i64 q.c.d.id, .int .i64 q.c.d.room, .int .i64 q.c.d.home, .int .i64 q.c.d.f, .int .i64 q.c.d.t, .bool q.c.d.ret, .int .i64 q.c.id, .int .i64 q.c.count] 70)) w2) := Lib.hid (by first | exact Ext.trans0 XB1.out x2 | exact Ext.trans0 XB1.out.drew x2 | exact Ext.trans0 XB1.out (Ext.trans0 ((Ext.refl _ _).drew) x2)); have hcc := And.intro (XB2.out.cell q0.out (fun a => a)) (And.intro (XB2.out.cell q1.out (fun a => a)) (XB2.out.cell q2.out (fun a => a))); clear hL2 o2 x2 r2)
    | (go_at_call 66; (with_reducible refine (rwNum_any A2 c2 L2 q.c.kind _ h2 (by first | exact R2.out | exact R2.out.drew) (by omega)).mono ?_); rintro e w3 ⟨v3, rfl, o3, x3⟩; obtain ⟨L3, hL3⟩ : ∃ L3, L3 = L2 ++ enc q.c.kind := ⟨_, rfl⟩; rw [← hL3] at o3; have len3 : L3.length ≤ L2.length + 10 := (by rw [hL3]; try rw [List.length_append]; have := (enc_length q.c.kind).2; omega); have HL3 := Lib.hid hL3; obtain ⟨A3, c3, rfl, _, _, r3⟩ := Own.slice o3; have R3 := Lib.hid r3; have XB3 : Hid (Ext None_ (w.alloc (.cells #[.int .i64 q.ses, .int .i64 q.seq, .int .i64 q.c.kind, .int .i64 q.c.o.id, .int .i64 q.c.o.size, .int .i64 q.c.o.pick.p, .int .i64 q.c.o.pick.f, .int .i64 q.c.o.pick.t, .int .i64 q.c.o.pick.s, .int .i64 q.c.o.drop.p, .int .i64 q.c.o.drop.f, .int .i64 q.c.o.drop.t, .int .i64 q.c.o.drop.s, .int .i64 q.c.d.id, .int .i64 q.c.d.room, .int .i64 q.c.d.home, .int .i64 q.c.d.f, .int .i64 q.c.d.t, .bool q.c.d.ret, .int .i64 q.c.id, .int .i64 q.c.count] 70)) w3) := Lib.hid (by first | exact Ext.trans0 XB2.out x3 | exact Ext.trans0 XB2.out.drew x3 | exact Ext.trans0 XB2.out (Ext.trans0 ((Ext.refl _ _).drew) x3)); have hcc := And.intro (XB3.out.cell q0.out (fun a => a)) (And.intro (XB3.out.cell q1.out (fun a => a)) (XB3.out.cell q2.out (fun a => a))); clear hL3 o3 x3 r3))
  have bc := (HB.out.ext0 XB3.out).cell
  go_wp2_with fail
  refine (rputDrv_any A3 c3 L3 q.c.d _ hd R3.out (by omega)).mono ?_
  rintro e w4 ⟨v4, rfl, o4, x4⟩
  clear bc
  obtain ⟨L4, hL4⟩ : ∃ L4, L4 = L3 ++ encDrv q.c.d := ⟨_, rfl⟩
  rw [← hL4] at o4
  have len4 : L4.length ≤ L3.length + 51 := (by rw [hL4]; try rw [List.length_append]; have := encDrv_len q.c.d; omega)
  have HL4 := Lib.hid hL4
  obtain ⟨A4, c4, rfl, _, _, r4⟩ := Own.slice o4
  have R4 := Lib.hid r4
  have XB4 : Hid (Ext None_ (w.alloc (.cells #[.int .i64 q.ses, .int .i64 q.seq, .int .i64 q.c.kind, .int .i64 q.c.o.id, .int .i64 q.c.o.size, .int .i64 q.c.o.pick.p, .int .i64 q.c.o.pick.f, .int .i64 q.c.o.pick.t, .int .i64 q.c.o.pick.s, .int .i64 q.c.o.drop.p, .int .i64 q.c.o.drop.f, .int .i64 q.c.o.drop.t, .int .i64 q.c.o.drop.s, .int .i64 q.c.d.id, .int .i64 q.c.d.room, .int .i64 q.c.d.home, .int .i64 q.c.d.f, .int .i64 q.c.d.t, .bool q.c.d.ret, .int .i64 q.c.id, .int .i64 q.c.count] 70)) w4) := Lib.hid (by first | exact Ext.trans0 XB3.out x4 | exact Ext.trans0 XB3.out.drew x4 | exact Ext.trans0 XB3.out (Ext.trans0 ((Ext.refl _ _).drew) x4))
  clear hL4 o4 x4 r4
  have conv := conv_string (src := 23) (dst := 9) (e := 5) Try.underlying23 Try.underlying5 Try.underlying9 (c := c4) R4.out
  go_wp2_with fail
  go_ret
  have e : encR q = L4 := by rw [HE.out, HL4.out, HL3.out, HL2.out, HL1.out]; simp only [List.append_assoc]
  rw [e]
  exact ⟨rfl, (x0 _ _).trans0 XB4.out⟩

set_option maxRecDepth 100000 in
set_option maxHeartbeats 8000000 in
theorem rencode5_any (q : Rq) (w : World) (hok : q.ok) (hk : q.c.kind = 5) (hr : rightB q.c = true) :
    Calls Try.prog 52 #[.agg q.cells] w fun e w' => e = .returned (.string (strOfNums (encR q))) ∧ Ext None_ w w' := by
  obtain ⟨h0, h1, h2, ho, hd, hi, hc⟩ := hok
  have hn : nmd q.c.kind = ⟨false, false, true, true, true⟩ := by simp [nmd, hk]
  have HE : Hid (encR q = enc q.ses ++ (enc q.seq ++ (enc q.c.kind ++ (enc q.c.id ++ enc q.c.count)))) := Lib.hid (by unfold encR encK; rw [if_pos hr, hn]; simp)
  have HR := Lib.hid (rRightT q.c hr)
  have e1 : (q.c.kind == 1) = false := by simp [hk]
  have e3 : (q.c.kind == 3) = false := by simp [hk]
  have e5 : (q.c.kind == 5) = true := by simp [hk]
  have e6 : (q.c.kind == 6) = false := by simp [hk]
  clear hr hn hk
  unfold Rq.cells
  have HB := Lib.hid (Blk.new w #[.int .i64 q.ses, .int .i64 q.seq, .int .i64 q.c.kind, .int .i64 q.c.o.id, .int .i64 q.c.o.size, .int .i64 q.c.o.pick.p, .int .i64 q.c.o.pick.f, .int .i64 q.c.o.pick.t, .int .i64 q.c.o.pick.s, .int .i64 q.c.o.drop.p, .int .i64 q.c.o.drop.f, .int .i64 q.c.o.drop.t, .int .i64 q.c.o.drop.s, .int .i64 q.c.d.id, .int .i64 q.c.d.room, .int .i64 q.c.d.home, .int .i64 q.c.d.f, .int .i64 q.c.d.t, .bool q.c.d.ret, .int .i64 q.c.id, .int .i64 q.c.count] 70)
  have q0 := Lib.hid (HB.out.cell 0)
  have q1 := Lib.hid (HB.out.cell 1)
  have q2 := Lib.hid (HB.out.cell 2)
  have bc := HB.out.cell
  go_enter Try.func52, Try.ntmps52
  go_wp2_with (refine wpList_load_mid rfl 68 (.tmp 4) rfl w.heap.size 2 rfl [.int .i64 q.c.kind, .int .i64 q.c.o.id, .int .i64 q.c.o.size, .int .i64 q.c.o.pick.p, .int .i64 q.c.o.pick.f, .int .i64 q.c.o.pick.t, .int .i64 q.c.o.pick.s, .int .i64 q.c.o.drop.p, .int .i64 q.c.o.drop.f, .int .i64 q.c.o.drop.t, .int .i64 q.c.o.drop.s, .int .i64 q.c.d.id, .int .i64 q.c.d.room, .int .i64 q.c.d.home, .int .i64 q.c.d.f, .int .i64 q.c.d.t, .bool q.c.d.ret, .int .i64 q.c.id, .int .i64 q.c.count] _ (HB.out.range 2 _ rfl) Try.underlying68 rfl cmdSize ?_)
  refine (HR.out _).mono ?_
  rintro e w0 ⟨rfl, XB0⟩
  replace XB0 := Lib.hid XB0
  clear bc
  have bc := (HB.out.ext0 XB0.out).cell
  go_wp2_with fail
  clear bc
  have CC : Hid ((fun W => W.cell? ⟨w.heap.size, 0, none⟩ = some (.int .i64 q.ses) ∧ W.cell? ⟨w.heap.size, 1, none⟩ = some (.int .i64 q.seq) ∧ W.cell? ⟨w.heap.size, 2, none⟩ = some (.int .i64 q.c.kind)) w0) := Lib.hid ⟨XB0.out.cell q0.out (fun a => a), XB0.out.cell q1.out (fun a => a), XB0.out.cell q2.out (fun a => a)⟩
  go_region_held3 (fun W => W.cell? ⟨w.heap.size, 0, none⟩ = some (.int .i64 q.ses) ∧ W.cell? ⟨w.heap.size, 1, none⟩ = some (.int .i64 q.seq) ∧ W.cell? ⟨w.heap.size, 2, none⟩ = some (.int .i64 q.c.kind)) (first | exact CC.out | (exact hcc) | (simp [*]; done)) (first
    | (go_at_call 66; (with_reducible refine (rwNum0_any q.ses _ h0 ).mono ?_); rintro e w1 ⟨v1, rfl, o1, x1⟩; obtain ⟨L1, hL1⟩ : ∃ L1, L1 = enc q.ses := ⟨_, rfl⟩; rw [← hL1] at o1; have len1 : L1.length ≤ 10 := (by rw [hL1]; exact (enc_length q.ses).2); have HL1 := Lib.hid hL1; obtain ⟨A1, c1, rfl, _, _, r1⟩ := Own.slice o1; have R1 := Lib.hid r1; have XB1 : Hid (Ext None_ (w.alloc (.cells #[.int .i64 q.ses, .int .i64 q.seq, .int .i64 q.c.kind, .int .i64 q.c.o.id, .int .i64 q.c.o.size, .int .i64 q.c.o.pick.p, .int .i64 q.c.o.pick.f, .int .i64 q.c.o.pick.t, .int .i64 q.c.o.pick.s, .int .i64 q.c.o.drop.p, .int .i64 q.c.o.drop.f, .int .i64 q.c.o.drop.t, .int .i64 q.c.o.drop.s, .int .i64 q.c.d.id, .int .i64 q.c.d.room, .int .i64 q.c.d.home, .int .i64 q.c.d.f, .int .i64 q.c.d.t, .bool q.c.d.ret, .int .i64 q.c.id, .int .i64 q.c.count] 70)) w1) := Lib.hid (by first | exact Ext.trans0 XB0.out x1 | exact Ext.trans0 XB0.out.drew x1 | exact Ext.trans0 XB0.out (Ext.trans0 ((Ext.refl _ _).drew) x1)); have hcc := And.intro (XB1.out.cell q0.out (fun a => a)) (And.intro (XB1.out.cell q1.out (fun a => a)) (XB1.out.cell q2.out (fun a => a))); clear hL1 o1 x1 r1)
    | (go_at_call 66; (with_reducible refine (rwNum_any A1 c1 L1 q.seq _ h1 (by first | exact R1.out | exact R1.out.drew) (by omega)).mono ?_); rintro e w2 ⟨v2, rfl, o2, x2⟩; obtain ⟨L2, hL2⟩ : ∃ L2, L2 = L1 ++ enc q.seq := ⟨_, rfl⟩; rw [← hL2] at o2; have len2 : L2.length ≤ L1.length + 10 := (by rw [hL2]; try rw [List.length_append]; have := (enc_length q.seq).2; omega); have HL2 := Lib.hid hL2; obtain ⟨A2, c2, rfl, _, _, r2⟩ := Own.slice o2; have R2 := Lib.hid r2; have XB2 : Hid (Ext None_ (w.alloc (.cells #[.int .i64 q.ses, .int .i64 q.seq, .int .i64 q.c.kind, .int .i64 q.c.o.id, .int .i64 q.c.o.size, .int .i64 q.c.o.pick.p, .int .i64 q.c.o.pick.f, .int .i64 q.c.o.pick.t, .int .i64 q.c.o.pick.s, .int .i64 q.c.o.drop.p, .int .i64 q.c.o.drop.f, .int .i64 q.c.o.drop.t, .int .i64 q.c.o.drop.s, .int .i64 q.c.d.id, .int .i64 q.c.d.room, .int .i64 q.c.d.home, .int .i64 q.c.d.f, .int .i64 q.c.d.t, .bool q.c.d.ret, .int .i64 q.c.id, .int .i64 q.c.count] 70)) w2) := Lib.hid (by first | exact Ext.trans0 XB1.out x2 | exact Ext.trans0 XB1.out.drew x2 | exact Ext.trans0 XB1.out (Ext.trans0 ((Ext.refl _ _).drew) x2)); have hcc := And.intro (XB2.out.cell q0.out (fun a => a)) (And.intro (XB2.out.cell q1.out (fun a => a)) (XB2.out.cell q2.out (fun a => a))); clear hL2 o2 x2 r2)
    | (go_at_call 66; (with_reducible refine (rwNum_any A2 c2 L2 q.c.kind _ h2 (by first | exact R2.out | exact R2.out.drew) (by omega)).mono ?_); rintro e w3 ⟨v3, rfl, o3, x3⟩; obtain ⟨L3, hL3⟩ : ∃ L3, L3 = L2 ++ enc q.c.kind := ⟨_, rfl⟩; rw [← hL3] at o3; have len3 : L3.length ≤ L2.length + 10 := (by rw [hL3]; try rw [List.length_append]; have := (enc_length q.c.kind).2; omega); have HL3 := Lib.hid hL3; obtain ⟨A3, c3, rfl, _, _, r3⟩ := Own.slice o3; have R3 := Lib.hid r3; have XB3 : Hid (Ext None_ (w.alloc (.cells #[.int .i64 q.ses, .int .i64 q.seq, .int .i64 q.c.kind, .int .i64 q.c.o.id, .int .i64 q.c.o.size, .int .i64 q.c.o.pick.p, .int .i64 q.c.o.pick.f, .int .i64 q.c.o.pick.t, .int .i64 q.c.o.pick.s, .int .i64 q.c.o.drop.p, .int .i64 q.c.o.drop.f, .int .i64 q.c.o.drop.t, .int .i64 q.c.o.drop.s, .int .i64 q.c.d.id, .int .i64 q.c.d.room, .int .i64 q.c.d.home, .int .i64 q.c.d.f, .int .i64 q.c.d.t, .bool q.c.d.ret, .int .i64 q.c.id, .int .i64 q.c.count] 70)) w3) := Lib.hid (by first | exact Ext.trans0 XB2.out x3 | exact Ext.trans0 XB2.out.drew x3 | exact Ext.trans0 XB2.out (Ext.trans0 ((Ext.refl _ _).drew) x3)); have hcc := And.intro (XB3.out.cell q0.out (fun a => a)) (And.intro (XB3.out.cell q1.out (fun a => a)) (XB3.out.cell q2.out (fun a => a))); clear hL3 o3 x3 r3))
  have bc := (HB.out.ext0 XB3.out).cell
  go_wp2_with fail
  clear bc
  have q3 := Lib.hid (HB.out.cell 19)
  have q4 := Lib.hid (HB.out.cell 20)
  clear hcc CC
  have CC : Hid ((fun W => W.cell? ⟨w.heap.size, 19, none⟩ = some (.int .i64 q.c.id) ∧ W.cell? ⟨w.heap.size, 20, none⟩ = some (.int .i64 q.c.count)) w3) := Lib.hid ⟨XB3.out.cell q3.out (fun a => a), XB3.out.cell q4.out (fun a => a)⟩
  go_region_held3 (fun W => W.cell? ⟨w.heap.size, 19, none⟩ = some (.int .i64 q.c.id) ∧ W.cell? ⟨w.heap.size, 20, none⟩ = some (.int .i64 q.c.count)) (first | exact CC.out | (exact hcc) | (simp [*]; done)) (first
    | (go_at_call 66; (with_reducible refine (rwNum_any A3 c3 L3 q.c.id _ hi (by first | exact R3.out | exact R3.out.drew) (by omega)).mono ?_); rintro e w4 ⟨v4, rfl, o4, x4⟩; obtain ⟨L4, hL4⟩ : ∃ L4, L4 = L3 ++ enc q.c.id := ⟨_, rfl⟩; rw [← hL4] at o4; have len4 : L4.length ≤ L3.length + 10 := (by rw [hL4]; try rw [List.length_append]; have := (enc_length q.c.id).2; omega); have HL4 := Lib.hid hL4; obtain ⟨A4, c4, rfl, _, _, r4⟩ := Own.slice o4; have R4 := Lib.hid r4; have XB4 : Hid (Ext None_ (w.alloc (.cells #[.int .i64 q.ses, .int .i64 q.seq, .int .i64 q.c.kind, .int .i64 q.c.o.id, .int .i64 q.c.o.size, .int .i64 q.c.o.pick.p, .int .i64 q.c.o.pick.f, .int .i64 q.c.o.pick.t, .int .i64 q.c.o.pick.s, .int .i64 q.c.o.drop.p, .int .i64 q.c.o.drop.f, .int .i64 q.c.o.drop.t, .int .i64 q.c.o.drop.s, .int .i64 q.c.d.id, .int .i64 q.c.d.room, .int .i64 q.c.d.home, .int .i64 q.c.d.f, .int .i64 q.c.d.t, .bool q.c.d.ret, .int .i64 q.c.id, .int .i64 q.c.count] 70)) w4) := Lib.hid (by first | exact Ext.trans0 XB3.out x4 | exact Ext.trans0 XB3.out.drew x4 | exact Ext.trans0 XB3.out (Ext.trans0 ((Ext.refl _ _).drew) x4)); have hcc := And.intro (XB4.out.cell q3.out (fun a => a)) (XB4.out.cell q4.out (fun a => a)); clear hL4 o4 x4 r4)
    | (go_at_call 66; (with_reducible refine (rwNum_any A4 c4 L4 q.c.count _ hc (by first | exact R4.out | exact R4.out.drew) (by omega)).mono ?_); rintro e w5 ⟨v5, rfl, o5, x5⟩; obtain ⟨L5, hL5⟩ : ∃ L5, L5 = L4 ++ enc q.c.count := ⟨_, rfl⟩; rw [← hL5] at o5; have len5 : L5.length ≤ L4.length + 10 := (by rw [hL5]; try rw [List.length_append]; have := (enc_length q.c.count).2; omega); have HL5 := Lib.hid hL5; obtain ⟨A5, c5, rfl, _, _, r5⟩ := Own.slice o5; have R5 := Lib.hid r5; have XB5 : Hid (Ext None_ (w.alloc (.cells #[.int .i64 q.ses, .int .i64 q.seq, .int .i64 q.c.kind, .int .i64 q.c.o.id, .int .i64 q.c.o.size, .int .i64 q.c.o.pick.p, .int .i64 q.c.o.pick.f, .int .i64 q.c.o.pick.t, .int .i64 q.c.o.pick.s, .int .i64 q.c.o.drop.p, .int .i64 q.c.o.drop.f, .int .i64 q.c.o.drop.t, .int .i64 q.c.o.drop.s, .int .i64 q.c.d.id, .int .i64 q.c.d.room, .int .i64 q.c.d.home, .int .i64 q.c.d.f, .int .i64 q.c.d.t, .bool q.c.d.ret, .int .i64 q.c.id, .int .i64 q.c.count] 70)) w5) := Lib.hid (by first | exact Ext.trans0 XB4.out x5 | exact Ext.trans0 XB4.out.drew x5 | exact Ext.trans0 XB4.out (Ext.trans0 ((Ext.refl _ _).drew) x5)); have hcc := And.intro (XB5.out.cell q3.out (fun a => a)) (XB5.out.cell q4.out (fun a => a)); clear hL5 o5 x5 r5))
  have conv := conv_string (src := 23) (dst := 9) (e := 5) Try.underlying23 Try.underlying5 Try.underlying9 (c := c5) R5.out
  go_wp2_with fail
  go_ret
  have e : encR q = L5 := by rw [HE.out, HL5.out, HL4.out, HL3.out, HL2.out, HL1.out]; simp only [List.append_assoc]
  rw [e]
  exact ⟨rfl, (x0 _ _).trans0 XB5.out⟩

set_option maxRecDepth 100000 in
set_option maxHeartbeats 8000000 in
theorem rencode6_any (q : Rq) (w : World) (hok : q.ok) (hk : q.c.kind = 6) (hr : rightB q.c = true) :
    Calls Try.prog 52 #[.agg q.cells] w fun e w' => e = .returned (.string (strOfNums (encR q))) ∧ Ext None_ w w' := by
  obtain ⟨h0, h1, h2, ho, hd, hi, hc⟩ := hok
  have hn : nmd q.c.kind = ⟨false, false, false, true, true⟩ := by simp [nmd, hk]
  have HE : Hid (encR q = enc q.ses ++ (enc q.seq ++ (enc q.c.kind ++ (enc q.c.count)))) := Lib.hid (by unfold encR encK; rw [if_pos hr, hn]; simp)
  have HR := Lib.hid (rRightT q.c hr)
  have e1 : (q.c.kind == 1) = false := by simp [hk]
  have e3 : (q.c.kind == 3) = false := by simp [hk]
  have e5 : (q.c.kind == 5) = false := by simp [hk]
  have e6 : (q.c.kind == 6) = true := by simp [hk]
  clear hr hn hk
  unfold Rq.cells
  have HB := Lib.hid (Blk.new w #[.int .i64 q.ses, .int .i64 q.seq, .int .i64 q.c.kind, .int .i64 q.c.o.id, .int .i64 q.c.o.size, .int .i64 q.c.o.pick.p, .int .i64 q.c.o.pick.f, .int .i64 q.c.o.pick.t, .int .i64 q.c.o.pick.s, .int .i64 q.c.o.drop.p, .int .i64 q.c.o.drop.f, .int .i64 q.c.o.drop.t, .int .i64 q.c.o.drop.s, .int .i64 q.c.d.id, .int .i64 q.c.d.room, .int .i64 q.c.d.home, .int .i64 q.c.d.f, .int .i64 q.c.d.t, .bool q.c.d.ret, .int .i64 q.c.id, .int .i64 q.c.count] 70)
  have q0 := Lib.hid (HB.out.cell 0)
  have q1 := Lib.hid (HB.out.cell 1)
  have q2 := Lib.hid (HB.out.cell 2)
  have bc := HB.out.cell
  go_enter Try.func52, Try.ntmps52
  go_wp2_with (refine wpList_load_mid rfl 68 (.tmp 4) rfl w.heap.size 2 rfl [.int .i64 q.c.kind, .int .i64 q.c.o.id, .int .i64 q.c.o.size, .int .i64 q.c.o.pick.p, .int .i64 q.c.o.pick.f, .int .i64 q.c.o.pick.t, .int .i64 q.c.o.pick.s, .int .i64 q.c.o.drop.p, .int .i64 q.c.o.drop.f, .int .i64 q.c.o.drop.t, .int .i64 q.c.o.drop.s, .int .i64 q.c.d.id, .int .i64 q.c.d.room, .int .i64 q.c.d.home, .int .i64 q.c.d.f, .int .i64 q.c.d.t, .bool q.c.d.ret, .int .i64 q.c.id, .int .i64 q.c.count] _ (HB.out.range 2 _ rfl) Try.underlying68 rfl cmdSize ?_)
  refine (HR.out _).mono ?_
  rintro e w0 ⟨rfl, XB0⟩
  replace XB0 := Lib.hid XB0
  clear bc
  have bc := (HB.out.ext0 XB0.out).cell
  go_wp2_with fail
  clear bc
  have CC : Hid ((fun W => W.cell? ⟨w.heap.size, 0, none⟩ = some (.int .i64 q.ses) ∧ W.cell? ⟨w.heap.size, 1, none⟩ = some (.int .i64 q.seq) ∧ W.cell? ⟨w.heap.size, 2, none⟩ = some (.int .i64 q.c.kind)) w0) := Lib.hid ⟨XB0.out.cell q0.out (fun a => a), XB0.out.cell q1.out (fun a => a), XB0.out.cell q2.out (fun a => a)⟩
  go_region_held3 (fun W => W.cell? ⟨w.heap.size, 0, none⟩ = some (.int .i64 q.ses) ∧ W.cell? ⟨w.heap.size, 1, none⟩ = some (.int .i64 q.seq) ∧ W.cell? ⟨w.heap.size, 2, none⟩ = some (.int .i64 q.c.kind)) (first | exact CC.out | (exact hcc) | (simp [*]; done)) (first
    | (go_at_call 66; (with_reducible refine (rwNum0_any q.ses _ h0 ).mono ?_); rintro e w1 ⟨v1, rfl, o1, x1⟩; obtain ⟨L1, hL1⟩ : ∃ L1, L1 = enc q.ses := ⟨_, rfl⟩; rw [← hL1] at o1; have len1 : L1.length ≤ 10 := (by rw [hL1]; exact (enc_length q.ses).2); have HL1 := Lib.hid hL1; obtain ⟨A1, c1, rfl, _, _, r1⟩ := Own.slice o1; have R1 := Lib.hid r1; have XB1 : Hid (Ext None_ (w.alloc (.cells #[.int .i64 q.ses, .int .i64 q.seq, .int .i64 q.c.kind, .int .i64 q.c.o.id, .int .i64 q.c.o.size, .int .i64 q.c.o.pick.p, .int .i64 q.c.o.pick.f, .int .i64 q.c.o.pick.t, .int .i64 q.c.o.pick.s, .int .i64 q.c.o.drop.p, .int .i64 q.c.o.drop.f, .int .i64 q.c.o.drop.t, .int .i64 q.c.o.drop.s, .int .i64 q.c.d.id, .int .i64 q.c.d.room, .int .i64 q.c.d.home, .int .i64 q.c.d.f, .int .i64 q.c.d.t, .bool q.c.d.ret, .int .i64 q.c.id, .int .i64 q.c.count] 70)) w1) := Lib.hid (by first | exact Ext.trans0 XB0.out x1 | exact Ext.trans0 XB0.out.drew x1 | exact Ext.trans0 XB0.out (Ext.trans0 ((Ext.refl _ _).drew) x1)); have hcc := And.intro (XB1.out.cell q0.out (fun a => a)) (And.intro (XB1.out.cell q1.out (fun a => a)) (XB1.out.cell q2.out (fun a => a))); clear hL1 o1 x1 r1)
    | (go_at_call 66; (with_reducible refine (rwNum_any A1 c1 L1 q.seq _ h1 (by first | exact R1.out | exact R1.out.drew) (by omega)).mono ?_); rintro e w2 ⟨v2, rfl, o2, x2⟩; obtain ⟨L2, hL2⟩ : ∃ L2, L2 = L1 ++ enc q.seq := ⟨_, rfl⟩; rw [← hL2] at o2; have len2 : L2.length ≤ L1.length + 10 := (by rw [hL2]; try rw [List.length_append]; have := (enc_length q.seq).2; omega); have HL2 := Lib.hid hL2; obtain ⟨A2, c2, rfl, _, _, r2⟩ := Own.slice o2; have R2 := Lib.hid r2; have XB2 : Hid (Ext None_ (w.alloc (.cells #[.int .i64 q.ses, .int .i64 q.seq, .int .i64 q.c.kind, .int .i64 q.c.o.id, .int .i64 q.c.o.size, .int .i64 q.c.o.pick.p, .int .i64 q.c.o.pick.f, .int .i64 q.c.o.pick.t, .int .i64 q.c.o.pick.s, .int .i64 q.c.o.drop.p, .int .i64 q.c.o.drop.f, .int .i64 q.c.o.drop.t, .int .i64 q.c.o.drop.s, .int .i64 q.c.d.id, .int .i64 q.c.d.room, .int .i64 q.c.d.home, .int .i64 q.c.d.f, .int .i64 q.c.d.t, .bool q.c.d.ret, .int .i64 q.c.id, .int .i64 q.c.count] 70)) w2) := Lib.hid (by first | exact Ext.trans0 XB1.out x2 | exact Ext.trans0 XB1.out.drew x2 | exact Ext.trans0 XB1.out (Ext.trans0 ((Ext.refl _ _).drew) x2)); have hcc := And.intro (XB2.out.cell q0.out (fun a => a)) (And.intro (XB2.out.cell q1.out (fun a => a)) (XB2.out.cell q2.out (fun a => a))); clear hL2 o2 x2 r2)
    | (go_at_call 66; (with_reducible refine (rwNum_any A2 c2 L2 q.c.kind _ h2 (by first | exact R2.out | exact R2.out.drew) (by omega)).mono ?_); rintro e w3 ⟨v3, rfl, o3, x3⟩; obtain ⟨L3, hL3⟩ : ∃ L3, L3 = L2 ++ enc q.c.kind := ⟨_, rfl⟩; rw [← hL3] at o3; have len3 : L3.length ≤ L2.length + 10 := (by rw [hL3]; try rw [List.length_append]; have := (enc_length q.c.kind).2; omega); have HL3 := Lib.hid hL3; obtain ⟨A3, c3, rfl, _, _, r3⟩ := Own.slice o3; have R3 := Lib.hid r3; have XB3 : Hid (Ext None_ (w.alloc (.cells #[.int .i64 q.ses, .int .i64 q.seq, .int .i64 q.c.kind, .int .i64 q.c.o.id, .int .i64 q.c.o.size, .int .i64 q.c.o.pick.p, .int .i64 q.c.o.pick.f, .int .i64 q.c.o.pick.t, .int .i64 q.c.o.pick.s, .int .i64 q.c.o.drop.p, .int .i64 q.c.o.drop.f, .int .i64 q.c.o.drop.t, .int .i64 q.c.o.drop.s, .int .i64 q.c.d.id, .int .i64 q.c.d.room, .int .i64 q.c.d.home, .int .i64 q.c.d.f, .int .i64 q.c.d.t, .bool q.c.d.ret, .int .i64 q.c.id, .int .i64 q.c.count] 70)) w3) := Lib.hid (by first | exact Ext.trans0 XB2.out x3 | exact Ext.trans0 XB2.out.drew x3 | exact Ext.trans0 XB2.out (Ext.trans0 ((Ext.refl _ _).drew) x3)); have hcc := And.intro (XB3.out.cell q0.out (fun a => a)) (And.intro (XB3.out.cell q1.out (fun a => a)) (XB3.out.cell q2.out (fun a => a))); clear hL3 o3 x3 r3))
  have bc := (HB.out.ext0 XB3.out).cell
  go_wp2_with fail
  refine (rwNum_any A3 c3 L3 q.c.count _ hc R3.out (by omega)).mono ?_
  rintro e w4 ⟨v4, rfl, o4, x4⟩
  clear bc
  obtain ⟨L4, hL4⟩ : ∃ L4, L4 = L3 ++ enc q.c.count := ⟨_, rfl⟩
  rw [← hL4] at o4
  have len4 : L4.length ≤ L3.length + 10 := (by rw [hL4]; try rw [List.length_append]; have := (enc_length q.c.count).2; omega)
  have HL4 := Lib.hid hL4
  obtain ⟨A4, c4, rfl, _, _, r4⟩ := Own.slice o4
  have R4 := Lib.hid r4
  have XB4 : Hid (Ext None_ (w.alloc (.cells #[.int .i64 q.ses, .int .i64 q.seq, .int .i64 q.c.kind, .int .i64 q.c.o.id, .int .i64 q.c.o.size, .int .i64 q.c.o.pick.p, .int .i64 q.c.o.pick.f, .int .i64 q.c.o.pick.t, .int .i64 q.c.o.pick.s, .int .i64 q.c.o.drop.p, .int .i64 q.c.o.drop.f, .int .i64 q.c.o.drop.t, .int .i64 q.c.o.drop.s, .int .i64 q.c.d.id, .int .i64 q.c.d.room, .int .i64 q.c.d.home, .int .i64 q.c.d.f, .int .i64 q.c.d.t, .bool q.c.d.ret, .int .i64 q.c.id, .int .i64 q.c.count] 70)) w4) := Lib.hid (by first | exact Ext.trans0 XB3.out x4 | exact Ext.trans0 XB3.out.drew x4 | exact Ext.trans0 XB3.out (Ext.trans0 ((Ext.refl _ _).drew) x4))
  clear hL4 o4 x4 r4
  have conv := conv_string (src := 23) (dst := 9) (e := 5) Try.underlying23 Try.underlying5 Try.underlying9 (c := c4) R4.out
  go_wp2_with fail
  go_ret
  have e : encR q = L4 := by rw [HE.out, HL4.out, HL3.out, HL2.out, HL1.out]; simp only [List.append_assoc]
  rw [e]
  exact ⟨rfl, (x0 _ _).trans0 XB4.out⟩

theorem rencode_any (q : Rq) (w : World) (hok : q.ok) :
    Calls Try.prog 52 #[.agg q.cells] w fun e w' => e = .returned (.string (strOfNums (encR q))) ∧ Ext None_ w w' := by
  cases hr : rightB q.c with
  | false => exact rencodeF_any q w hr
  | true =>
    have hok' : (nmd q.c.kind).ok = true := by unfold rightB at hr; simp only [Bool.and_eq_true] at hr; exact hr.1
    by_cases k1 : q.c.kind = 1
    · exact rencode1_any q w hok k1 hr
    by_cases k2 : q.c.kind = 2
    · exact rencode2_any q w hok k2 hr
    by_cases k4 : q.c.kind = 4
    · exact rencode4_any q w hok k4 hr
    by_cases k7 : q.c.kind = 7
    · exact rencode7_any q w hok k7 hr
    by_cases k3 : q.c.kind = 3
    · exact rencode3_any q w hok k3 hr
    by_cases k5 : q.c.kind = 5
    · exact rencode5_any q w hok k5 hr
    by_cases k6 : q.c.kind = 6
    · exact rencode6_any q w hok k6 hr
    simp [nmd, k1, k2, k3, k4, k5, k6, k7] at hok'

end Go.Proofs.Ytmobdofkiddfhaa
