/- Chapter 15's statements, walked: CommandRight, CommandWrites (over CommandRuns). Written by gen_l15.py. -/
import Derived.Test.YtmobdofkiddfhaaCmdQ
import Derived.Test.YtmobdofkiddfhaaReg
set_option linter.unusedVariables false
set_option linter.unusedSimpArgs false
namespace Go.Proofs.Ytmobdofkiddfhaa
open Go.RowKit B
def Runs15 : Prop := ∀ w, Calls Try.prog 9 #[] w fun e w' => e = .returned (.bool true) ∧ Ext None_ w w'
theorem call_of {P : Program} {f : FuncId} {args : Array Value} {w : World} {v : Value} (h : Calls P f args w fun e w' => e = .returned v ∧ Ext None_ w w') : Calls P f args w fun e w' => ∃ u, e = .returned u ∧ (sv v).p u w' ∧ Ext None_ w w' := h.mono fun _ _ ⟨h1, h2⟩ => ⟨v, h1, rfl, h2⟩
theorem info4 : Try.prog.underlying 4 = some .bool := Try.underlying4

set_option maxRecDepth 100000 in
set_option maxHeartbeats 4000000 in
theorem commandWrites_any (q : Rq) (w : World) (hq : q.ok) (hruns : Runs15) :
    Calls Try.prog 12 #[.agg q.cells] w fun e w' => e = .returned (.bool true) ∧ Ext None_ w w' := by
  have HRUNS := Lib.hid hruns
  have HE := Lib.hid (encode_any q · hq)
  have HF := Lib.hid (rencode_any q · hq)
  clear hruns hq
  obtain ⟨S, hS⟩ : ∃ S, S = strOfNums (encR q) := ⟨_, rfl⟩
  rw [← hS] at HE HF
  clear hS
  unfold Rq.cells at *
  go_enter Try.func12, Try.ntmps12
  go_wp2_with fail
  have HB := Lib.hid ((Blk.new w #[.int .i64 q.ses, .int .i64 q.seq, .int .i64 q.c.kind, .int .i64 q.c.o.id, .int .i64 q.c.o.size, .int .i64 q.c.o.pick.p, .int .i64 q.c.o.pick.f, .int .i64 q.c.o.pick.t, .int .i64 q.c.o.pick.s, .int .i64 q.c.o.drop.p, .int .i64 q.c.o.drop.f, .int .i64 q.c.o.drop.t, .int .i64 q.c.o.drop.s, .int .i64 q.c.d.id, .int .i64 q.c.d.room, .int .i64 q.c.d.home, .int .i64 q.c.d.f, .int .i64 q.c.d.t, .bool q.c.d.ret, .int .i64 q.c.id, .int .i64 q.c.count] 70).drew)
  refine wp_region_mem [sv (.agg #[.int .i64 q.ses, .int .i64 q.seq, .int .i64 q.c.kind, .int .i64 q.c.o.id, .int .i64 q.c.o.size, .int .i64 q.c.o.pick.p, .int .i64 q.c.o.pick.f, .int .i64 q.c.o.pick.t, .int .i64 q.c.o.pick.s, .int .i64 q.c.o.drop.p, .int .i64 q.c.o.drop.f, .int .i64 q.c.o.drop.t, .int .i64 q.c.o.drop.s, .int .i64 q.c.d.id, .int .i64 q.c.d.room, .int .i64 q.c.d.home, .int .i64 q.c.d.f, .int .i64 q.c.d.t, .bool q.c.d.ret, .int .i64 q.c.id, .int .i64 q.c.count]), sv (.string S), sv (.agg #[.int .i64 q.ses, .int .i64 q.seq, .int .i64 q.c.kind, .int .i64 q.c.o.id, .int .i64 q.c.o.size, .int .i64 q.c.o.pick.p, .int .i64 q.c.o.pick.f, .int .i64 q.c.o.pick.t, .int .i64 q.c.o.pick.s, .int .i64 q.c.o.drop.p, .int .i64 q.c.o.drop.f, .int .i64 q.c.o.drop.t, .int .i64 q.c.o.drop.s, .int .i64 q.c.d.id, .int .i64 q.c.d.room, .int .i64 q.c.d.home, .int .i64 q.c.d.f, .int .i64 q.c.d.t, .bool q.c.d.ret, .int .i64 q.c.id, .int .i64 q.c.count]), sv (.string S), sv (.bool true), sv (.bool true), sv (.bool true), sv (.bool true), sv (.bool true)] (by kernel_rfl) rfl rfl rfl rfl ⟨?_, ?_, ?_, ?_, ?_, ?_, ?_, ?_, ?_, trivial⟩ ?_
  · intro L a w1 hd hj K hK
    rw [if_pos (wanted_none rfl)]
    have f1 := hj.base 1 rfl rfl
    exact wp_load_row _ _ rfl _ (ev f1) _ _ (0, 0) _ (HB.out.ext0 hj.ext) Try.underlying70 rfl rqSize (hK _ _ rfl (Ext.refl _ _))
  · intro L a w1 hd hj K hK
    rw [if_pos (wanted_none rfl)]
    have f3 := hj.val 0 3 rfl rfl (by simp) rfl (hd ⟨0, .data⟩ (by simp) rfl)
    exact opCall hK Try.func42 (by kernel_rfl) rfl (args := #[.agg #[.int .i64 q.ses, .int .i64 q.seq, .int .i64 q.c.kind, .int .i64 q.c.o.id, .int .i64 q.c.o.size, .int .i64 q.c.o.pick.p, .int .i64 q.c.o.pick.f, .int .i64 q.c.o.pick.t, .int .i64 q.c.o.pick.s, .int .i64 q.c.o.drop.p, .int .i64 q.c.o.drop.f, .int .i64 q.c.o.drop.t, .int .i64 q.c.o.drop.s, .int .i64 q.c.d.id, .int .i64 q.c.d.room, .int .i64 q.c.d.home, .int .i64 q.c.d.f, .int .i64 q.c.d.t, .bool q.c.d.ret, .int .i64 q.c.id, .int .i64 q.c.count]]) (by simp [ev f3]) (call_of (HE.out _))
  · intro L a w1 hd hj K hK
    rw [if_pos (wanted_none rfl)]
    have f1 := hj.base 1 rfl rfl
    exact wp_load_row _ _ rfl _ (ev f1) _ _ (0, 0) _ (HB.out.ext0 hj.ext) Try.underlying70 rfl rqSize (hK _ _ rfl (Ext.refl _ _))
  · intro L a w1 hd hj K hK
    rw [if_pos (wanted_none rfl)]
    have f5 := hj.val 2 5 rfl rfl (by simp) rfl (hd ⟨2, .data⟩ (by simp) rfl)
    exact opCall hK Try.func52 (by kernel_rfl) rfl (args := #[.agg #[.int .i64 q.ses, .int .i64 q.seq, .int .i64 q.c.kind, .int .i64 q.c.o.id, .int .i64 q.c.o.size, .int .i64 q.c.o.pick.p, .int .i64 q.c.o.pick.f, .int .i64 q.c.o.pick.t, .int .i64 q.c.o.pick.s, .int .i64 q.c.o.drop.p, .int .i64 q.c.o.drop.f, .int .i64 q.c.o.drop.t, .int .i64 q.c.o.drop.s, .int .i64 q.c.d.id, .int .i64 q.c.d.room, .int .i64 q.c.d.home, .int .i64 q.c.d.f, .int .i64 q.c.d.t, .bool q.c.d.ret, .int .i64 q.c.id, .int .i64 q.c.count]]) (by simp [ev f5]) (call_of (HF.out _))
  · intro L a w1 hd hj K hK
    rw [if_pos (wanted_none rfl)]
    have f4 := hj.val 1 4 rfl rfl (by simp) rfl (hd ⟨1, .data⟩ (by simp) rfl)
    have f6 := hj.val 3 6 rfl rfl (by simp) rfl (hd ⟨3, .data⟩ (by simp) rfl)
    exact opBin hK rfl (ev f4) (ev f6) (guardStr _ _ _ _ _ _ _) (binEqStr _ _ _ _) (congrArg Value.bool (by simp))
  · intro L a w1 hd hj K hK
    rw [if_pos (wanted_none rfl)]
    have f7 := hj.val 4 7 rfl rfl (by simp) rfl (hd ⟨4, .data⟩ (by simp) rfl)
    exact opMove hK rfl (ev f7) rfl
  · intro L a w1 hd hj K hK
    have fg := hj.val 5 8 rfl rfl (by simp) rfl (hd ⟨5, .guard⟩ (by simp) rfl)
    rw [wanted_some (c := true) rfl rfl rfl fg, if_pos (by rfl)]
    exact opCall hK Try.func9 (by kernel_rfl) rfl (args := #[]) (by simp [Act.eval]) (call_of (HRUNS.out _))
  · intro L a w1 hd hj K hK
    rw [if_pos (wanted_none rfl)]
    have f8 := hj.val 5 8 rfl rfl (by simp) rfl (hd ⟨5, .data⟩ (by simp) rfl)
    have f9 := hj.val 6 9 rfl rfl (by simp) rfl (hd ⟨6, .data⟩ (by simp) rfl)
    exact opPick hK rfl (b := true) (ev f8) ((if_pos rfl).trans (ev f9)) rfl
  · intro L a w1 hd hj K hK
    rw [if_pos (wanted_none rfl)]
    have f10 := hj.val 7 10 rfl rfl (by simp) rfl (hd ⟨7, .data⟩ (by simp) rfl)
    exact opAssign hK rfl (ev f10) rfl
  intro vs w9 hx hg
  have v8 : vs 8 = .bool true := hg 8 (by simp)
  have X := Lib.hid hx
  clear hx hg
  simp only [putAll, v8, Nat.reduceAdd, Nat.zero_add]
  simp only [Act.put, List.setIfInBounds_toArray, List.set_cons_succ, List.set_cons_zero]
  go_wp2_with fail
  go_ret
  exact ⟨rfl, ((x0 _ _).drew).trans0 X.out⟩

set_option maxRecDepth 100000 in
set_option maxHeartbeats 4000000 in
theorem commandRight_any (c : Cmd) (w : World) (hruns : Runs15) :
    Calls Try.prog 10 #[.agg c.cells] w fun e w' => e = .returned (.bool true) ∧ Ext None_ w w' := by
  have HRUNS := Lib.hid hruns
  have HE := Lib.hid (right_any c)
  have HF := Lib.hid (rRight_any c)
  clear hruns
  obtain ⟨S, hS⟩ : ∃ S, S = rightB c := ⟨_, rfl⟩
  rw [← hS] at HE HF
  clear hS
  unfold Cmd.cells at *
  go_enter Try.func10, Try.ntmps10
  go_wp2_with fail
  have HB := Lib.hid ((Blk.new w #[.int .i64 c.kind, .int .i64 c.o.id, .int .i64 c.o.size, .int .i64 c.o.pick.p, .int .i64 c.o.pick.f, .int .i64 c.o.pick.t, .int .i64 c.o.pick.s, .int .i64 c.o.drop.p, .int .i64 c.o.drop.f, .int .i64 c.o.drop.t, .int .i64 c.o.drop.s, .int .i64 c.d.id, .int .i64 c.d.room, .int .i64 c.d.home, .int .i64 c.d.f, .int .i64 c.d.t, .bool c.d.ret, .int .i64 c.id, .int .i64 c.count] 68).drew)
  refine wp_region_mem [sv (.agg #[.int .i64 c.kind, .int .i64 c.o.id, .int .i64 c.o.size, .int .i64 c.o.pick.p, .int .i64 c.o.pick.f, .int .i64 c.o.pick.t, .int .i64 c.o.pick.s, .int .i64 c.o.drop.p, .int .i64 c.o.drop.f, .int .i64 c.o.drop.t, .int .i64 c.o.drop.s, .int .i64 c.d.id, .int .i64 c.d.room, .int .i64 c.d.home, .int .i64 c.d.f, .int .i64 c.d.t, .bool c.d.ret, .int .i64 c.id, .int .i64 c.count]), sv (.bool S), sv (.agg #[.int .i64 c.kind, .int .i64 c.o.id, .int .i64 c.o.size, .int .i64 c.o.pick.p, .int .i64 c.o.pick.f, .int .i64 c.o.pick.t, .int .i64 c.o.pick.s, .int .i64 c.o.drop.p, .int .i64 c.o.drop.f, .int .i64 c.o.drop.t, .int .i64 c.o.drop.s, .int .i64 c.d.id, .int .i64 c.d.room, .int .i64 c.d.home, .int .i64 c.d.f, .int .i64 c.d.t, .bool c.d.ret, .int .i64 c.id, .int .i64 c.count]), sv (.bool S), sv (.bool true), sv (.bool true), sv (.bool true), sv (.bool true), sv (.bool true)] (by kernel_rfl) rfl rfl rfl rfl ⟨?_, ?_, ?_, ?_, ?_, ?_, ?_, ?_, ?_, trivial⟩ ?_
  · intro L a w1 hd hj K hK
    rw [if_pos (wanted_none rfl)]
    have f1 := hj.base 1 rfl rfl
    exact wp_load_row _ _ rfl _ (ev f1) _ _ (0, 0) _ (HB.out.ext0 hj.ext) Try.underlying68 rfl cmdSize (hK _ _ rfl (Ext.refl _ _))
  · intro L a w1 hd hj K hK
    rw [if_pos (wanted_none rfl)]
    have f3 := hj.val 0 3 rfl rfl (by simp) rfl (hd ⟨0, .data⟩ (by simp) rfl)
    exact opCall hK Try.func45 (by kernel_rfl) rfl (args := #[.agg #[.int .i64 c.kind, .int .i64 c.o.id, .int .i64 c.o.size, .int .i64 c.o.pick.p, .int .i64 c.o.pick.f, .int .i64 c.o.pick.t, .int .i64 c.o.pick.s, .int .i64 c.o.drop.p, .int .i64 c.o.drop.f, .int .i64 c.o.drop.t, .int .i64 c.o.drop.s, .int .i64 c.d.id, .int .i64 c.d.room, .int .i64 c.d.home, .int .i64 c.d.f, .int .i64 c.d.t, .bool c.d.ret, .int .i64 c.id, .int .i64 c.count]]) (by simp [ev f3]) (call_of (HE.out _))
  · intro L a w1 hd hj K hK
    rw [if_pos (wanted_none rfl)]
    have f1 := hj.base 1 rfl rfl
    exact wp_load_row _ _ rfl _ (ev f1) _ _ (0, 0) _ (HB.out.ext0 hj.ext) Try.underlying68 rfl cmdSize (hK _ _ rfl (Ext.refl _ _))
  · intro L a w1 hd hj K hK
    rw [if_pos (wanted_none rfl)]
    have f5 := hj.val 2 5 rfl rfl (by simp) rfl (hd ⟨2, .data⟩ (by simp) rfl)
    exact opCall hK Try.func46 (by kernel_rfl) rfl (args := #[.agg #[.int .i64 c.kind, .int .i64 c.o.id, .int .i64 c.o.size, .int .i64 c.o.pick.p, .int .i64 c.o.pick.f, .int .i64 c.o.pick.t, .int .i64 c.o.pick.s, .int .i64 c.o.drop.p, .int .i64 c.o.drop.f, .int .i64 c.o.drop.t, .int .i64 c.o.drop.s, .int .i64 c.d.id, .int .i64 c.d.room, .int .i64 c.d.home, .int .i64 c.d.f, .int .i64 c.d.t, .bool c.d.ret, .int .i64 c.id, .int .i64 c.count]]) (by simp [ev f5]) (call_of (HF.out _))
  · intro L a w1 hd hj K hK
    rw [if_pos (wanted_none rfl)]
    have f4 := hj.val 1 4 rfl rfl (by simp) rfl (hd ⟨1, .data⟩ (by simp) rfl)
    have f6 := hj.val 3 6 rfl rfl (by simp) rfl (hd ⟨3, .data⟩ (by simp) rfl)
    exact opBin hK rfl (ev f4) (ev f6) (guardBool _ _ _ _ _ _ _) (binEqBool _ _ _ info4) (congrArg Value.bool (by simp))
  · intro L a w1 hd hj K hK
    rw [if_pos (wanted_none rfl)]
    have f7 := hj.val 4 7 rfl rfl (by simp) rfl (hd ⟨4, .data⟩ (by simp) rfl)
    exact opMove hK rfl (ev f7) rfl
  · intro L a w1 hd hj K hK
    have fg := hj.val 5 8 rfl rfl (by simp) rfl (hd ⟨5, .guard⟩ (by simp) rfl)
    rw [wanted_some (c := true) rfl rfl rfl fg, if_pos (by rfl)]
    exact opCall hK Try.func9 (by kernel_rfl) rfl (args := #[]) (by simp [Act.eval]) (call_of (HRUNS.out _))
  · intro L a w1 hd hj K hK
    rw [if_pos (wanted_none rfl)]
    have f8 := hj.val 5 8 rfl rfl (by simp) rfl (hd ⟨5, .data⟩ (by simp) rfl)
    have f9 := hj.val 6 9 rfl rfl (by simp) rfl (hd ⟨6, .data⟩ (by simp) rfl)
    exact opPick hK rfl (b := true) (ev f8) ((if_pos rfl).trans (ev f9)) rfl
  · intro L a w1 hd hj K hK
    rw [if_pos (wanted_none rfl)]
    have f10 := hj.val 7 10 rfl rfl (by simp) rfl (hd ⟨7, .data⟩ (by simp) rfl)
    exact opAssign hK rfl (ev f10) rfl
  intro vs w9 hx hg
  have v8 : vs 8 = .bool true := hg 8 (by simp)
  have X := Lib.hid hx
  clear hx hg
  simp only [putAll, v8, Nat.reduceAdd, Nat.zero_add]
  simp only [Act.put, List.setIfInBounds_toArray, List.set_cons_succ, List.set_cons_zero]
  go_wp2_with fail
  go_ret
  exact ⟨rfl, ((x0 _ _).drew).trans0 X.out⟩

end Go.Proofs.Ytmobdofkiddfhaa
