/- Chapter 15's statements, walked: CommandReads; the walks of CommandWrites, CommandRight, CommandReads as their rows call them. Written by gen_l15b.py. -/
import Derived.Test.YtmobdofkiddfhaaCmdZ
set_option linter.unusedVariables false
set_option linter.unusedSimpArgs false
namespace Go.Proofs.Ytmobdofkiddfhaa
open Go.RowKit B
theorem commandWrites_row (q : Rq) (hq : q.ok) {w : World} :
    Calls Try.prog 12 #[.agg #[.int .i64 q.ses, .int .i64 q.seq, .int .i64 q.c.kind, .int .i64 q.c.o.id, .int .i64 q.c.o.size, .int .i64 q.c.o.pick.p, .int .i64 q.c.o.pick.f, .int .i64 q.c.o.pick.t, .int .i64 q.c.o.pick.s, .int .i64 q.c.o.drop.p, .int .i64 q.c.o.drop.f, .int .i64 q.c.o.drop.t, .int .i64 q.c.o.drop.s, .int .i64 q.c.d.id, .int .i64 q.c.d.room, .int .i64 q.c.d.home, .int .i64 q.c.d.f, .int .i64 q.c.d.t, .bool q.c.d.ret, .int .i64 q.c.id, .int .i64 q.c.count]] w fun e w' => e = .returned (.bool true) ∧ Ext None_ w w' := commandWrites_any q w hq runs15_any
theorem commandRight_row (c : Cmd) (hc : c.ok) {w : World} :
    Calls Try.prog 10 #[.agg #[.int .i64 c.kind, .int .i64 c.o.id, .int .i64 c.o.size, .int .i64 c.o.pick.p, .int .i64 c.o.pick.f, .int .i64 c.o.pick.t, .int .i64 c.o.pick.s, .int .i64 c.o.drop.p, .int .i64 c.o.drop.f, .int .i64 c.o.drop.t, .int .i64 c.o.drop.s, .int .i64 c.d.id, .int .i64 c.d.room, .int .i64 c.d.home, .int .i64 c.d.f, .int .i64 c.d.t, .bool c.d.ret, .int .i64 c.id, .int .i64 c.count]] w fun e w' => e = .returned (.bool true) ∧ Ext None_ w w' := commandRight_any c w runs15_any
set_option maxRecDepth 100000 in
set_option maxHeartbeats 8000000 in
theorem commandReads_row (s : ByteArray) (hs : s.size ≤ 140737488351232) {w : World} :
    Calls Try.prog 13 #[.string s] w fun e w' => e = .returned (.bool true) ∧ Ext None_ w w' := by
  have HD := fun W => decode_any s W (by omega)
  have HR := fun W => rdecode_any s W (by omega)
  obtain ⟨p, hp⟩ : ∃ p, p = decR (bytesOf s) := ⟨_, rfl⟩
  rw [← hp] at HD HR
  clear hp hs
  unfold Rq.cells at HD HR
  have HD := Lib.hid HD
  have HR := Lib.hid HR
  have HRUNS := Lib.hid runs15_any
  go_enter Try.func13, Try.ntmps13
  go_wp2_with fail
  refine (HD.out _).mono ?_
  rintro e w1 ⟨rfl, x1⟩
  have X1 := Lib.hid x1
  clear x1
  go_wp2_with (refine wpList_store_new rfl 70 (.tmp 3) (.tmp 10) rfl w1.heap.size rfl #[.int .i64 0, .int .i64 0, .int .i64 0, .int .i64 0, .int .i64 0, .int .i64 0, .int .i64 0, .int .i64 0, .int .i64 0, .int .i64 0, .int .i64 0, .int .i64 0, .int .i64 0, .int .i64 0, .int .i64 0, .int .i64 0, .int .i64 0, .int .i64 0, .bool false, .int .i64 0, .int .i64 0] #[.int .i64 p.1.ses, .int .i64 p.1.seq, .int .i64 p.1.c.kind, .int .i64 p.1.c.o.id, .int .i64 p.1.c.o.size, .int .i64 p.1.c.o.pick.p, .int .i64 p.1.c.o.pick.f, .int .i64 p.1.c.o.pick.t, .int .i64 p.1.c.o.pick.s, .int .i64 p.1.c.o.drop.p, .int .i64 p.1.c.o.drop.f, .int .i64 p.1.c.o.drop.t, .int .i64 p.1.c.o.drop.s, .int .i64 p.1.c.d.id, .int .i64 p.1.c.d.room, .int .i64 p.1.c.d.home, .int .i64 p.1.c.d.f, .int .i64 p.1.c.d.t, .bool p.1.c.d.ret, .int .i64 p.1.c.id, .int .i64 p.1.c.count] rfl rfl 70 rqSize rfl rfl ?_)
  have B1 := Lib.hid (Blk.new w1 #[.int .i64 p.1.ses, .int .i64 p.1.seq, .int .i64 p.1.c.kind, .int .i64 p.1.c.o.id, .int .i64 p.1.c.o.size, .int .i64 p.1.c.o.pick.p, .int .i64 p.1.c.o.pick.f, .int .i64 p.1.c.o.pick.t, .int .i64 p.1.c.o.pick.s, .int .i64 p.1.c.o.drop.p, .int .i64 p.1.c.o.drop.f, .int .i64 p.1.c.o.drop.t, .int .i64 p.1.c.o.drop.s, .int .i64 p.1.c.d.id, .int .i64 p.1.c.d.room, .int .i64 p.1.c.d.home, .int .i64 p.1.c.d.f, .int .i64 p.1.c.d.t, .bool p.1.c.d.ret, .int .i64 p.1.c.id, .int .i64 p.1.c.count] 70)
  refine (HR.out _).mono ?_
  rintro e w2 ⟨rfl, x2⟩
  have X2 : Hid (Ext None_ w w2) := Lib.hid ((X1.out.alloc _).trans0 x2)
  have B2 := Lib.hid ((B1.out.ext0 x2).alloc (.cells #[.int .i64 p.1.ses, .int .i64 p.1.seq, .int .i64 p.1.c.kind, .int .i64 p.1.c.o.id, .int .i64 p.1.c.o.size, .int .i64 p.1.c.o.pick.p, .int .i64 p.1.c.o.pick.f, .int .i64 p.1.c.o.pick.t, .int .i64 p.1.c.o.pick.s, .int .i64 p.1.c.o.drop.p, .int .i64 p.1.c.o.drop.f, .int .i64 p.1.c.o.drop.t, .int .i64 p.1.c.o.drop.s, .int .i64 p.1.c.d.id, .int .i64 p.1.c.d.room, .int .i64 p.1.c.d.home, .int .i64 p.1.c.d.f, .int .i64 p.1.c.d.t, .bool p.1.c.d.ret, .int .i64 p.1.c.id, .int .i64 p.1.c.count] 70))
  have B3 := Lib.hid (Blk.new w2 #[.int .i64 p.1.ses, .int .i64 p.1.seq, .int .i64 p.1.c.kind, .int .i64 p.1.c.o.id, .int .i64 p.1.c.o.size, .int .i64 p.1.c.o.pick.p, .int .i64 p.1.c.o.pick.f, .int .i64 p.1.c.o.pick.t, .int .i64 p.1.c.o.pick.s, .int .i64 p.1.c.o.drop.p, .int .i64 p.1.c.o.drop.f, .int .i64 p.1.c.o.drop.t, .int .i64 p.1.c.o.drop.s, .int .i64 p.1.c.d.id, .int .i64 p.1.c.d.room, .int .i64 p.1.c.d.home, .int .i64 p.1.c.d.f, .int .i64 p.1.c.d.t, .bool p.1.c.d.ret, .int .i64 p.1.c.id, .int .i64 p.1.c.count] 70)
  clear x2
  have qe : ∀ W : World, (Op.equalIn 10000 70 (.agg #[.int .i64 p.1.ses, .int .i64 p.1.seq, .int .i64 p.1.c.kind, .int .i64 p.1.c.o.id, .int .i64 p.1.c.o.size, .int .i64 p.1.c.o.pick.p, .int .i64 p.1.c.o.pick.f, .int .i64 p.1.c.o.pick.t, .int .i64 p.1.c.o.pick.s, .int .i64 p.1.c.o.drop.p, .int .i64 p.1.c.o.drop.f, .int .i64 p.1.c.o.drop.t, .int .i64 p.1.c.o.drop.s, .int .i64 p.1.c.d.id, .int .i64 p.1.c.d.room, .int .i64 p.1.c.d.home, .int .i64 p.1.c.d.f, .int .i64 p.1.c.d.t, .bool p.1.c.d.ret, .int .i64 p.1.c.id, .int .i64 p.1.c.count]) (.agg #[.int .i64 p.1.ses, .int .i64 p.1.seq, .int .i64 p.1.c.kind, .int .i64 p.1.c.o.id, .int .i64 p.1.c.o.size, .int .i64 p.1.c.o.pick.p, .int .i64 p.1.c.o.pick.f, .int .i64 p.1.c.o.pick.t, .int .i64 p.1.c.o.pick.s, .int .i64 p.1.c.o.drop.p, .int .i64 p.1.c.o.drop.f, .int .i64 p.1.c.o.drop.t, .int .i64 p.1.c.o.drop.s, .int .i64 p.1.c.d.id, .int .i64 p.1.c.d.room, .int .i64 p.1.c.d.home, .int .i64 p.1.c.d.f, .int .i64 p.1.c.d.t, .bool p.1.c.d.ret, .int .i64 p.1.c.id, .int .i64 p.1.c.count])).run Try.prog W = .ok true W := fun W => (eqRq p.1 p.1 W).trans (by rw [(rqEq_iff p.1 p.1).2 rfl])
  go_wp2_with (first | (refine wpList_load_row rfl 70 (.tmp 3) rfl w1.heap.size rfl 70 _ (0, 0) _ B2.out Try.underlying70 rfl rqSize ?_) | (refine wpList_load_row rfl 70 (.tmp 5) rfl w2.heap.size rfl 70 _ (0, 0) _ B3.out Try.underlying70 rfl rqSize ?_) | refine wpList_store_new rfl 70 (.tmp 5) (.tmp 15) rfl w2.heap.size rfl #[.int .i64 0, .int .i64 0, .int .i64 0, .int .i64 0, .int .i64 0, .int .i64 0, .int .i64 0, .int .i64 0, .int .i64 0, .int .i64 0, .int .i64 0, .int .i64 0, .int .i64 0, .int .i64 0, .int .i64 0, .int .i64 0, .int .i64 0, .int .i64 0, .bool false, .int .i64 0, .int .i64 0] #[.int .i64 p.1.ses, .int .i64 p.1.seq, .int .i64 p.1.c.kind, .int .i64 p.1.c.o.id, .int .i64 p.1.c.o.size, .int .i64 p.1.c.o.pick.p, .int .i64 p.1.c.o.pick.f, .int .i64 p.1.c.o.pick.t, .int .i64 p.1.c.o.pick.s, .int .i64 p.1.c.o.drop.p, .int .i64 p.1.c.o.drop.f, .int .i64 p.1.c.o.drop.t, .int .i64 p.1.c.o.drop.s, .int .i64 p.1.c.d.id, .int .i64 p.1.c.d.room, .int .i64 p.1.c.d.home, .int .i64 p.1.c.d.f, .int .i64 p.1.c.d.t, .bool p.1.c.d.ret, .int .i64 p.1.c.id, .int .i64 p.1.c.count] rfl rfl 70 rqSize rfl rfl ?_)
  refine (HRUNS.out _).mono ?_
  rintro e w3 ⟨rfl, x3⟩
  have X3 : Hid (Ext None_ w w3) := Lib.hid ((X2.out.alloc _).trans0 x3)
  clear x3
  go_wp2_with fail
  go_ret
  exact ⟨rfl, X3.out⟩
end Go.Proofs.Ytmobdofkiddfhaa
