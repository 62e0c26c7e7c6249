/- Package command and drayref15: Right, walked. Written by gen_right.py. -/
import Derived.Test.YtmobdofkiddfhaaCmdN
import Derived.Deep.WholeRow
import Derived.Deep.MidRow
set_option linter.unusedVariables false
set_option linter.unusedSimpArgs false
namespace Go.Proofs.Ytmobdofkiddfhaa
open Go.RowKit B
structure Cmd where
  kind : Int
  o : Ord
  d : Drv
  id : Int
  count : Int
def Cmd.cells (c : Cmd) : Array Value := #[.int .i64 c.kind, .int .i64 c.o.id, .int .i64 c.o.size, .int .i64 c.o.pick.p, .int .i64 c.o.pick.f, .int .i64 c.o.pick.t, .int .i64 c.o.pick.s, .int .i64 c.o.drop.p, .int .i64 c.o.drop.f, .int .i64 c.o.drop.t, .int .i64 c.o.drop.s, .int .i64 c.d.id, .int .i64 c.d.room, .int .i64 c.d.home, .int .i64 c.d.f, .int .i64 c.d.t, .bool c.d.ret, .int .i64 c.id, .int .i64 c.count]
def Site.z (s : Site) : Bool := s.p == 0 && (s.f == 0 && (s.t == 0 && s.s == 0))
def Ord.z (o : Ord) : Bool := o.id == 0 && (o.size == 0 && (o.pick.z && o.drop.z))
def Drv.z (d : Drv) : Bool := d.id == 0 && (d.room == 0 && (d.home == 0 && (d.f == 0 && (d.t == 0 && !d.ret))))
def rightB (c : Cmd) : Bool := (nmd c.kind).ok && (((nmd c.kind).o || c.o.z) && (((nmd c.kind).d || c.d.z) && (((nmd c.kind).i || c.id == 0) && ((nmd c.kind).c || c.count == 0))))
set_option maxRecDepth 100000 in
set_option maxHeartbeats 1000000 in
theorem eqDrv (d : Drv) (w : World) : (Op.equalIn 10000 66 (.agg #[.int .i64 d.id, .int .i64 d.room, .int .i64 d.home, .int .i64 d.f, .int .i64 d.t, .bool d.ret]) (.agg #[.int .i64 0, .int .i64 0, .int .i64 0, .int .i64 0, .int .i64 0, .bool false])).run Try.prog w = .ok d.z w := by
  have hS : Try.prog.underlying 66 = some (.struct (Try.prog.fieldsOf 66)) := by kernel_rfl
  rw [show (10000 : Nat) = 9999 + 1 from rfl, run_equalIn_agg w 9999 66 _ _ hS (by kernel_rfl)]
  simp only [Program.fieldsOf, Try.underlying66]
  go_simp
  unfold Drv.z
  cases d.ret <;> repeat' split
  all_goals simp_all
set_option maxRecDepth 100000 in
set_option maxHeartbeats 1000000 in
theorem eqOrd (o : Ord) (w : World) : (Op.equalIn 10000 64 (.agg #[.int .i64 o.id, .int .i64 o.size, .int .i64 o.pick.p, .int .i64 o.pick.f, .int .i64 o.pick.t, .int .i64 o.pick.s, .int .i64 o.drop.p, .int .i64 o.drop.f, .int .i64 o.drop.t, .int .i64 o.drop.s]) (.agg #[.int .i64 0, .int .i64 0, .int .i64 0, .int .i64 0, .int .i64 0, .int .i64 0, .int .i64 0, .int .i64 0, .int .i64 0, .int .i64 0])).run Try.prog w = .ok o.z w := by
  have hS : Try.prog.underlying 64 = some (.struct (Try.prog.fieldsOf 64)) := by kernel_rfl
  rw [show (10000 : Nat) = 9999 + 1 from rfl, run_equalIn_agg w 9999 64 _ _ hS (by kernel_rfl)]
  simp only [Program.fieldsOf, Try.underlying64]
  go_simp
  unfold Ord.z Site.z
  repeat' split
  all_goals simp_all
theorem wpList_store_new {P : Program} {ops : Array Oper} {rest : List Oper} {o : Oper} {a : Act} {W : World} {Q : Exit → Act → World → Prop} (hgd : o.guard = none) (ty : TypeId) (x y : Operand) (ho : o.op = .store ty x y)
    (g : Nat) (hg : W.heap.size = g) (old cells : Array Value) (hx : a.eval x = .pointer (some ⟨g, 0, none⟩)) (hy : a.eval y = .agg cells)
    (t : TypeId) (hi : (P.info? ty).map (·.size) = some cells.size) (hold : old.size = cells.size) (h1 : cells.toList.all (·.oneCell') = true)
    (h : wpList P ops Q rest (a.put o.dst undef) (W.alloc (.cells cells t))) : wpList P ops Q (o :: rest) a (W.alloc (.cells old t)) := by
  subst hg
  refine wpList_store_row hgd ty x y ho W.heap.size cells hx hy t old (Blk.new W old t) hi hold (by rw [← Array.all_toList]; exact h1) ?_
  rw [World.setRow_alloc_new]
  exact h
theorem B.Blk.new1 (w : World) (o : Obj) (cs : Array Value) (t : TypeId) : Blk ((w.alloc o).alloc (.cells cs t)) (w.heap.size + 1) cs t := by
  have := Blk.new (w.alloc o) cs t
  simpa using this
theorem B.Blk.range {w : World} {g : Nat} {cs : Array Value} {t : TypeId} (h : Blk w g cs t) (o : Nat) (l : List Value) (hl : (cs.toList.drop o).take l.length = l) : w.rangeAt g o l := fun j v hv => by
  rw [h.cell]
  rw [← hl, List.getElem?_take] at hv
  split at hv
  · rw [List.getElem?_drop] at hv
    simpa using hv
  · cases hv
theorem storeNew (w : World) (t : TypeId) (c c' : Array Value) (hi : (Try.prog.info? t).map (·.size) = some c'.size) (ho : c.size = c'.size) (h1 : c'.toList.all (·.oneCell') = true) :
    (storeCells ⟨w.heap.size, 0, none⟩ c'.toList 0).run Try.prog (w.alloc (.cells c t)) = .ok () (w.alloc (.cells c' t)) := run_storeCells_new w t c c' hi ho (by rw [← Array.all_toList]; exact h1)
theorem cmdSize : (Try.prog.info? 68).map (·.size) = some 19 := by kernel_rfl
theorem zo_ : Ord.z ⟨0, 0, ⟨0, 0, 0, 0⟩, ⟨0, 0, 0, 0⟩⟩ = true := rfl
theorem zd_ : Drv.z ⟨0, 0, 0, 0, 0, false⟩ = true := rfl
theorem ifok {p : Prop} [Decidable p] {r : Result Bool} {b : Bool} {w : World} (h : r = .ok b w) : (if p then r else .ok false w) = .ok (decide p && b) w := by
  by_cases hp : p <;> simp [hp, h]
theorem ifok' {p : Prop} [Decidable p] {r : Result Bool} {b : Bool} {w : World} (h : r = .ok b w) : (if p then .ok false w else r) = .ok (!decide p && b) w := by
  by_cases hp : p <;> simp [hp, h]
def Cmd.z (c : Cmd) : Bool := c.o.z && (c.d.z && (c.id == 0 && c.count == 0))
set_option maxRecDepth 100000 in
set_option maxHeartbeats 4000000 in
theorem eqCmd (c : Cmd) (w : World) : (Op.equalIn 10000 68 (.agg #[.int .i64 c.kind, .int .i64 c.o.id, .int .i64 c.o.size, .int .i64 c.o.pick.p, .int .i64 c.o.pick.f, .int .i64 c.o.pick.t, .int .i64 c.o.pick.s, .int .i64 c.o.drop.p, .int .i64 c.o.drop.f, .int .i64 c.o.drop.t, .int .i64 c.o.drop.s, .int .i64 c.d.id, .int .i64 c.d.room, .int .i64 c.d.home, .int .i64 c.d.f, .int .i64 c.d.t, .bool c.d.ret, .int .i64 c.id, .int .i64 c.count]) (.agg #[.int .i64 c.kind, .int .i64 0, .int .i64 0, .int .i64 0, .int .i64 0, .int .i64 0, .int .i64 0, .int .i64 0, .int .i64 0, .int .i64 0, .int .i64 0, .int .i64 0, .int .i64 0, .int .i64 0, .int .i64 0, .int .i64 0, .bool false, .int .i64 0, .int .i64 0])).run Try.prog w = .ok c.z w := by
  have hS : Try.prog.underlying 68 = some (.struct (Try.prog.fieldsOf 68)) := by kernel_rfl
  rw [show (10000 : Nat) = 9999 + 1 from rfl, run_equalIn_agg w 9999 68 _ _ hS (by kernel_rfl)]
  simp only [Program.fieldsOf, Try.underlying68]
  go_simp
  refine (ifok (ifok (ifok (ifok (ifok (ifok (ifok (ifok (ifok (ifok (ifok (ifok (ifok (ifok (ifok (ifok' (ifok (ifok (rfl))))))))))))))))))).trans ?_
  have e : ∀ a b : Bool, a = b → (Result.ok a w : Result Bool) = .ok b w := fun a b h => by rw [h]
  refine e _ _ ?_
  simp only [Cmd.z, Ord.z, Site.z, Drv.z, Bool.and_assoc, Bool.decide_eq_true, Bool.and_true]
  rfl

set_option maxRecDepth 100000 in
set_option maxHeartbeats 4000000 in
theorem right1_any (c : Cmd) (w : World) (hk : c.kind = 1) :
    Calls Try.prog 45 #[.agg c.cells] w fun e w' => e = .returned (.bool (rightB c)) ∧ Ext None_ w w' := by
  have hn : nmd c.kind = ⟨true, false, false, false, true⟩ := by simp [nmd, hk]
  have e1 : (c.kind == 1) = true := by simp [hk]
  have e2 : (c.kind == 2) = false := by simp [hk]
  have e3 : (c.kind == 3) = false := by simp [hk]
  have e4 : (c.kind == 4) = false := by simp [hk]
  have e5 : (c.kind == 5) = false := by simp [hk]
  have e6 : (c.kind == 6) = false := by simp [hk]
  have e7 : (c.kind == 7) = false := by simp [hk]
  have hr : rightB c = (c.d.z && (c.id == 0 && (c.count == 0))) := by unfold rightB; rw [hn]; simp
  rw [hr]
  have HNM := Lib.hid (named_any c.kind)
  rw [hn] at HNM
  have qo := eqOrd c.o
  have qd := eqDrv c.d
  clear hr hn hk
  unfold Cmd.cells
  go_enter Try.func45, Try.ntmps45
  go_wp2_with fail
  refine (HNM.out _).mono ?_
  rintro e w1 ⟨rfl, rfl⟩
  go_wp2_with fail
  all_goals
    go_ret
    refine ⟨?_, ?_⟩
    · first | rfl | (simp only [*, Bool.true_and, Bool.false_and, Bool.and_true, Bool.and_false]; done) | (simp_all; done) | (rw [HZ.out]; simp [Cmd.z, zo_, zd_])
    · first | exact x0 _ _ | exact ((x0 _ _).alloc _) | (repeat (first | exact x0 _ _ | refine Ext.setCell ?_ (.inr (by simp)) _ | refine Ext.alloc ?_ _))

set_option maxRecDepth 100000 in
set_option maxHeartbeats 4000000 in
theorem right2_any (c : Cmd) (w : World) (hk : c.kind = 2) :
    Calls Try.prog 45 #[.agg c.cells] w fun e w' => e = .returned (.bool (rightB c)) ∧ Ext None_ w w' := by
  have hn : nmd c.kind = ⟨false, false, true, false, true⟩ := by simp [nmd, hk]
  have e1 : (c.kind == 1) = false := by simp [hk]
  have e2 : (c.kind == 2) = true := by simp [hk]
  have e3 : (c.kind == 3) = false := by simp [hk]
  have e4 : (c.kind == 4) = false := by simp [hk]
  have e5 : (c.kind == 5) = false := by simp [hk]
  have e6 : (c.kind == 6) = false := by simp [hk]
  have e7 : (c.kind == 7) = false := by simp [hk]
  have hr : rightB c = (c.o.z && (c.d.z && (c.count == 0))) := by unfold rightB; rw [hn]; simp
  rw [hr]
  have HNM := Lib.hid (named_any c.kind)
  rw [hn] at HNM
  have qo := eqOrd c.o
  have qd := eqDrv c.d
  clear hr hn hk
  unfold Cmd.cells
  go_enter Try.func45, Try.ntmps45
  go_wp2_with fail
  refine (HNM.out _).mono ?_
  rintro e w1 ⟨rfl, rfl⟩
  go_wp2_with fail
  all_goals
    go_ret
    refine ⟨?_, ?_⟩
    · first | rfl | (simp only [*, Bool.true_and, Bool.false_and, Bool.and_true, Bool.and_false]; done) | (simp_all; done) | (rw [HZ.out]; simp [Cmd.z, zo_, zd_])
    · first | exact x0 _ _ | exact ((x0 _ _).alloc _) | (repeat (first | exact x0 _ _ | refine Ext.setCell ?_ (.inr (by simp)) _ | refine Ext.alloc ?_ _))

set_option maxRecDepth 100000 in
set_option maxHeartbeats 4000000 in
theorem right4_any (c : Cmd) (w : World) (hk : c.kind = 4) :
    Calls Try.prog 45 #[.agg c.cells] w fun e w' => e = .returned (.bool (rightB c)) ∧ Ext None_ w w' := by
  have hn : nmd c.kind = ⟨false, false, true, false, true⟩ := by simp [nmd, hk]
  have e1 : (c.kind == 1) = false := by simp [hk]
  have e2 : (c.kind == 2) = false := by simp [hk]
  have e3 : (c.kind == 3) = false := by simp [hk]
  have e4 : (c.kind == 4) = true := by simp [hk]
  have e5 : (c.kind == 5) = false := by simp [hk]
  have e6 : (c.kind == 6) = false := by simp [hk]
  have e7 : (c.kind == 7) = false := by simp [hk]
  have hr : rightB c = (c.o.z && (c.d.z && (c.count == 0))) := by unfold rightB; rw [hn]; simp
  rw [hr]
  have HNM := Lib.hid (named_any c.kind)
  rw [hn] at HNM
  have qo := eqOrd c.o
  have qd := eqDrv c.d
  clear hr hn hk
  unfold Cmd.cells
  go_enter Try.func45, Try.ntmps45
  go_wp2_with fail
  refine (HNM.out _).mono ?_
  rintro e w1 ⟨rfl, rfl⟩
  go_wp2_with fail
  all_goals
    go_ret
    refine ⟨?_, ?_⟩
    · first | rfl | (simp only [*, Bool.true_and, Bool.false_and, Bool.and_true, Bool.and_false]; done) | (simp_all; done) | (rw [HZ.out]; simp [Cmd.z, zo_, zd_])
    · first | exact x0 _ _ | exact ((x0 _ _).alloc _) | (repeat (first | exact x0 _ _ | refine Ext.setCell ?_ (.inr (by simp)) _ | refine Ext.alloc ?_ _))

set_option maxRecDepth 100000 in
set_option maxHeartbeats 4000000 in
theorem right7_any (c : Cmd) (w : World) (hk : c.kind = 7) :
    Calls Try.prog 45 #[.agg c.cells] w fun e w' => e = .returned (.bool (rightB c)) ∧ Ext None_ w w' := by
  have hn : nmd c.kind = ⟨false, false, true, false, true⟩ := by simp [nmd, hk]
  have e1 : (c.kind == 1) = false := by simp [hk]
  have e2 : (c.kind == 2) = false := by simp [hk]
  have e3 : (c.kind == 3) = false := by simp [hk]
  have e4 : (c.kind == 4) = false := by simp [hk]
  have e5 : (c.kind == 5) = false := by simp [hk]
  have e6 : (c.kind == 6) = false := by simp [hk]
  have e7 : (c.kind == 7) = true := by simp [hk]
  have hr : rightB c = (c.o.z && (c.d.z && (c.count == 0))) := by unfold rightB; rw [hn]; simp
  rw [hr]
  have HNM := Lib.hid (named_any c.kind)
  rw [hn] at HNM
  have qo := eqOrd c.o
  have qd := eqDrv c.d
  clear hr hn hk
  unfold Cmd.cells
  go_enter Try.func45, Try.ntmps45
  go_wp2_with fail
  refine (HNM.out _).mono ?_
  rintro e w1 ⟨rfl, rfl⟩
  go_wp2_with fail
  all_goals
    go_ret
    refine ⟨?_, ?_⟩
    · first | rfl | (simp only [*, Bool.true_and, Bool.false_and, Bool.and_true, Bool.and_false]; done) | (simp_all; done) | (rw [HZ.out]; simp [Cmd.z, zo_, zd_])
    · first | exact x0 _ _ | exact ((x0 _ _).alloc _) | (repeat (first | exact x0 _ _ | refine Ext.setCell ?_ (.inr (by simp)) _ | refine Ext.alloc ?_ _))

set_option maxRecDepth 100000 in
set_option maxHeartbeats 4000000 in
theorem right3_any (c : Cmd) (w : World) (hk : c.kind = 3) :
    Calls Try.prog 45 #[.agg c.cells] w fun e w' => e = .returned (.bool (rightB c)) ∧ Ext None_ w w' := by
  have hn : nmd c.kind = ⟨false, true, false, false, true⟩ := by simp [nmd, hk]
  have e1 : (c.kind == 1) = false := by simp [hk]
  have e2 : (c.kind == 2) = false := by simp [hk]
  have e3 : (c.kind == 3) = true := by simp [hk]
  have e4 : (c.kind == 4) = false := by simp [hk]
  have e5 : (c.kind == 5) = false := by simp [hk]
  have e6 : (c.kind == 6) = false := by simp [hk]
  have e7 : (c.kind == 7) = false := by simp [hk]
  have hr : rightB c = (c.o.z && (c.id == 0 && (c.count == 0))) := by unfold rightB; rw [hn]; simp
  rw [hr]
  have HNM := Lib.hid (named_any c.kind)
  rw [hn] at HNM
  have qo := eqOrd c.o
  have qd := eqDrv c.d
  clear hr hn hk
  unfold Cmd.cells
  go_enter Try.func45, Try.ntmps45
  go_wp2_with fail
  refine (HNM.out _).mono ?_
  rintro e w1 ⟨rfl, rfl⟩
  go_wp2_with fail
  all_goals
    go_ret
    refine ⟨?_, ?_⟩
    · first | rfl | (simp only [*, Bool.true_and, Bool.false_and, Bool.and_true, Bool.and_false]; done) | (simp_all; done) | (rw [HZ.out]; simp [Cmd.z, zo_, zd_])
    · first | exact x0 _ _ | exact ((x0 _ _).alloc _) | (repeat (first | exact x0 _ _ | refine Ext.setCell ?_ (.inr (by simp)) _ | refine Ext.alloc ?_ _))

set_option maxRecDepth 100000 in
set_option maxHeartbeats 4000000 in
theorem right5_any (c : Cmd) (w : World) (hk : c.kind = 5) :
    Calls Try.prog 45 #[.agg c.cells] w fun e w' => e = .returned (.bool (rightB c)) ∧ Ext None_ w w' := by
  have hn : nmd c.kind = ⟨false, false, true, true, true⟩ := by simp [nmd, hk]
  have e1 : (c.kind == 1) = false := by simp [hk]
  have e2 : (c.kind == 2) = false := by simp [hk]
  have e3 : (c.kind == 3) = false := by simp [hk]
  have e4 : (c.kind == 4) = false := by simp [hk]
  have e5 : (c.kind == 5) = true := by simp [hk]
  have e6 : (c.kind == 6) = false := by simp [hk]
  have e7 : (c.kind == 7) = false := by simp [hk]
  have hr : rightB c = (c.o.z && (c.d.z)) := by unfold rightB; rw [hn]; simp
  rw [hr]
  have HNM := Lib.hid (named_any c.kind)
  rw [hn] at HNM
  have qo := eqOrd c.o
  have qd := eqDrv c.d
  clear hr hn hk
  unfold Cmd.cells
  go_enter Try.func45, Try.ntmps45
  go_wp2_with fail
  refine (HNM.out _).mono ?_
  rintro e w1 ⟨rfl, rfl⟩
  go_wp2_with fail
  all_goals
    go_ret
    refine ⟨?_, ?_⟩
    · first | rfl | (simp only [*, Bool.true_and, Bool.false_and, Bool.and_true, Bool.and_false]; done) | (simp_all; done) | (rw [HZ.out]; simp [Cmd.z, zo_, zd_])
    · first | exact x0 _ _ | exact ((x0 _ _).alloc _) | (repeat (first | exact x0 _ _ | refine Ext.setCell ?_ (.inr (by simp)) _ | refine Ext.alloc ?_ _))

set_option maxRecDepth 100000 in
set_option maxHeartbeats 4000000 in
theorem right6_any (c : Cmd) (w : World) (hk : c.kind = 6) :
    Calls Try.prog 45 #[.agg c.cells] w fun e w' => e = .returned (.bool (rightB c)) ∧ Ext None_ w w' := by
  have hn : nmd c.kind = ⟨false, false, false, true, true⟩ := by simp [nmd, hk]
  have e1 : (c.kind == 1) = false := by simp [hk]
  have e2 : (c.kind == 2) = false := by simp [hk]
  have e3 : (c.kind == 3) = false := by simp [hk]
  have e4 : (c.kind == 4) = false := by simp [hk]
  have e5 : (c.kind == 5) = false := by simp [hk]
  have e6 : (c.kind == 6) = true := by simp [hk]
  have e7 : (c.kind == 7) = false := by simp [hk]
  have hr : rightB c = (c.o.z && (c.d.z && (c.id == 0))) := by unfold rightB; rw [hn]; simp
  rw [hr]
  have HNM := Lib.hid (named_any c.kind)
  rw [hn] at HNM
  have qo := eqOrd c.o
  have qd := eqDrv c.d
  clear hr hn hk
  unfold Cmd.cells
  go_enter Try.func45, Try.ntmps45
  go_wp2_with fail
  refine (HNM.out _).mono ?_
  rintro e w1 ⟨rfl, rfl⟩
  go_wp2_with fail
  all_goals
    go_ret
    refine ⟨?_, ?_⟩
    · first | rfl | (simp only [*, Bool.true_and, Bool.false_and, Bool.and_true, Bool.and_false]; done) | (simp_all; done) | (rw [HZ.out]; simp [Cmd.z, zo_, zd_])
    · first | exact x0 _ _ | exact ((x0 _ _).alloc _) | (repeat (first | exact x0 _ _ | refine Ext.setCell ?_ (.inr (by simp)) _ | refine Ext.alloc ?_ _))

set_option maxRecDepth 100000 in
set_option maxHeartbeats 4000000 in
theorem right0_any (c : Cmd) (w : World) (hk : ¬ c.kind = 1 ∧ ¬ c.kind = 2 ∧ ¬ c.kind = 3 ∧ ¬ c.kind = 4 ∧ ¬ c.kind = 5 ∧ ¬ c.kind = 6 ∧ ¬ c.kind = 7) :
    Calls Try.prog 45 #[.agg c.cells] w fun e w' => e = .returned (.bool (rightB c)) ∧ Ext None_ w w' := by
  obtain ⟨k1, k2, k3, k4, k5, k6, k7⟩ := hk
  have hn : nmd c.kind = ⟨false, false, false, false, false⟩ := by simp [nmd, k1, k2, k3, k4, k5, k6, k7]
  have e1 : (c.kind == 1) = false := by simp [k1]
  have e2 : (c.kind == 2) = false := by simp [k2]
  have e3 : (c.kind == 3) = false := by simp [k3]
  have e4 : (c.kind == 4) = false := by simp [k4]
  have e5 : (c.kind == 5) = false := by simp [k5]
  have e6 : (c.kind == 6) = false := by simp [k6]
  have e7 : (c.kind == 7) = false := by simp [k7]
  have hr : rightB c = (false) := by unfold rightB; rw [hn]; simp
  rw [hr]
  have HNM := Lib.hid (named_any c.kind)
  rw [hn] at HNM
  have qo := eqOrd c.o
  have qd := eqDrv c.d
  clear hr hn k1 k2 k3 k4 k5 k6 k7
  unfold Cmd.cells
  go_enter Try.func45, Try.ntmps45
  go_wp2_with fail
  refine (HNM.out _).mono ?_
  rintro e w1 ⟨rfl, rfl⟩
  go_wp2_with fail
  all_goals
    go_ret
    refine ⟨?_, ?_⟩
    · first | rfl | (simp only [*, Bool.true_and, Bool.false_and, Bool.and_true, Bool.and_false]; done) | (simp_all; done) | (rw [HZ.out]; simp [Cmd.z, zo_, zd_])
    · first | exact x0 _ _ | exact ((x0 _ _).alloc _) | (repeat (first | exact x0 _ _ | refine Ext.setCell ?_ (.inr (by simp)) _ | refine Ext.alloc ?_ _))

theorem right_any (c : Cmd) (w : World) :
    Calls Try.prog 45 #[.agg c.cells] w fun e w' => e = .returned (.bool (rightB c)) ∧ Ext None_ w w' := by
  by_cases k1 : c.kind = 1
  · exact right1_any c w k1
  by_cases k2 : c.kind = 2
  · exact right2_any c w k2
  by_cases k3 : c.kind = 3
  · exact right3_any c w k3
  by_cases k4 : c.kind = 4
  · exact right4_any c w k4
  by_cases k5 : c.kind = 5
  · exact right5_any c w k5
  by_cases k6 : c.kind = 6
  · exact right6_any c w k6
  by_cases k7 : c.kind = 7
  · exact right7_any c w k7
  exact right0_any c w ⟨k1, k2, k3, k4, k5, k6, k7⟩

set_option maxRecDepth 100000 in
set_option maxHeartbeats 4000000 in
theorem rRight1_any (c : Cmd) (w : World) (hk : c.kind = 1) :
    Calls Try.prog 46 #[.agg c.cells] w fun e w' => e = .returned (.bool (rightB c)) ∧ Ext None_ w w' := by
  have hn : nmd c.kind = ⟨true, false, false, false, true⟩ := by simp [nmd, hk]
  have e1 : (c.kind == 1) = true := by simp [hk]
  have e2 : (c.kind == 2) = false := by simp [hk]
  have e3 : (c.kind == 3) = false := by simp [hk]
  have e4 : (c.kind == 4) = false := by simp [hk]
  have e5 : (c.kind == 5) = false := by simp [hk]
  have e6 : (c.kind == 6) = false := by simp [hk]
  have e7 : (c.kind == 7) = false := by simp [hk]
  have hr : rightB c = (c.d.z && (c.id == 0 && (c.count == 0))) := by unfold rightB; rw [hn]; simp
  rw [hr]
  obtain ⟨zz, hz⟩ : ∃ zz, zz = Cmd.z (⟨c.kind, ⟨0, 0, ⟨0, 0, 0, 0⟩, ⟨0, 0, 0, 0⟩⟩, c.d, c.id, c.count⟩ : Cmd) := ⟨_, rfl⟩
  have HZ := Lib.hid hz
  have qc : ∀ W : World, (Op.equalIn 10000 68 (.agg #[.int .i64 c.kind, .int .i64 0, .int .i64 0, .int .i64 0, .int .i64 0, .int .i64 0, .int .i64 0, .int .i64 0, .int .i64 0, .int .i64 0, .int .i64 0, .int .i64 c.d.id, .int .i64 c.d.room, .int .i64 c.d.home, .int .i64 c.d.f, .int .i64 c.d.t, .bool c.d.ret, .int .i64 c.id, .int .i64 c.count]) (.agg #[.int .i64 c.kind, .int .i64 0, .int .i64 0, .int .i64 0, .int .i64 0, .int .i64 0, .int .i64 0, .int .i64 0, .int .i64 0, .int .i64 0, .int .i64 0, .int .i64 0, .int .i64 0, .int .i64 0, .int .i64 0, .int .i64 0, .bool false, .int .i64 0, .int .i64 0])).run Try.prog W = .ok zz W := fun W => by rw [hz]; exact eqCmd (⟨c.kind, ⟨0, 0, ⟨0, 0, 0, 0⟩, ⟨0, 0, 0, 0⟩⟩, c.d, c.id, c.count⟩ : Cmd) W
  clear hz
  have hbuild : ∀ W : World, (Instr.build 68 #[(0, .int .i64 c.kind)]).run Try.prog W = .ok (.agg #[.int .i64 c.kind, .int .i64 0, .int .i64 0, .int .i64 0, .int .i64 0, .int .i64 0, .int .i64 0, .int .i64 0, .int .i64 0, .int .i64 0, .int .i64 0, .int .i64 0, .int .i64 0, .int .i64 0, .int .i64 0, .int .i64 0, .bool false, .int .i64 0, .int .i64 0]) W := fun W => run_build W 68 _ _ (by kernel_rfl)
  have qs := storeNew (w.alloc (.cells #[.int .i64 c.kind, .int .i64 c.o.id, .int .i64 c.o.size, .int .i64 c.o.pick.p, .int .i64 c.o.pick.f, .int .i64 c.o.pick.t, .int .i64 c.o.pick.s, .int .i64 c.o.drop.p, .int .i64 c.o.drop.f, .int .i64 c.o.drop.t, .int .i64 c.o.drop.s, .int .i64 c.d.id, .int .i64 c.d.room, .int .i64 c.d.home, .int .i64 c.d.f, .int .i64 c.d.t, .bool c.d.ret, .int .i64 c.id, .int .i64 c.count] 68)) 68 #[.int .i64 0, .int .i64 0, .int .i64 0, .int .i64 0, .int .i64 0, .int .i64 0, .int .i64 0, .int .i64 0, .int .i64 0, .int .i64 0, .int .i64 0, .int .i64 0, .int .i64 0, .int .i64 0, .int .i64 0, .int .i64 0, .bool false, .int .i64 0, .int .i64 0] #[.int .i64 c.kind, .int .i64 c.o.id, .int .i64 c.o.size, .int .i64 c.o.pick.p, .int .i64 c.o.pick.f, .int .i64 c.o.pick.t, .int .i64 c.o.pick.s, .int .i64 c.o.drop.p, .int .i64 c.o.drop.f, .int .i64 c.o.drop.t, .int .i64 c.o.drop.s, .int .i64 c.d.id, .int .i64 c.d.room, .int .i64 c.d.home, .int .i64 c.d.f, .int .i64 c.d.t, .bool c.d.ret, .int .i64 c.id, .int .i64 c.count] cmdSize rfl rfl
  rw [show (w.alloc (.cells #[.int .i64 c.kind, .int .i64 c.o.id, .int .i64 c.o.size, .int .i64 c.o.pick.p, .int .i64 c.o.pick.f, .int .i64 c.o.pick.t, .int .i64 c.o.pick.s, .int .i64 c.o.drop.p, .int .i64 c.o.drop.f, .int .i64 c.o.drop.t, .int .i64 c.o.drop.s, .int .i64 c.d.id, .int .i64 c.d.room, .int .i64 c.d.home, .int .i64 c.d.f, .int .i64 c.d.t, .bool c.d.ret, .int .i64 c.id, .int .i64 c.count] 68)).heap.size = w.heap.size + 1 from by simp] at qs
  clear hr hn hk
  unfold Cmd.cells
  go_enter Try.func46, Try.ntmps46
  go_wp2_with (first | (refine wpList_load_row rfl 68 (.tmp 1) rfl w.heap.size rfl 68 _ (0, 0) _ (Blk.new w _ _) Try.underlying68 rfl cmdSize ?_) | (refine wpList_load_row rfl 68 (.tmp 3) rfl (w.heap.size + 1) rfl 68 _ (0, 0) _ (Blk.new1 w _ _ _) Try.underlying68 rfl cmdSize ?_) | refine wpList_store_new rfl 68 (.tmp 3) (.tmp 4) rfl (w.heap.size + 1) (by simp) #[.int .i64 0, .int .i64 0, .int .i64 0, .int .i64 0, .int .i64 0, .int .i64 0, .int .i64 0, .int .i64 0, .int .i64 0, .int .i64 0, .int .i64 0, .int .i64 0, .int .i64 0, .int .i64 0, .int .i64 0, .int .i64 0, .bool false, .int .i64 0, .int .i64 0] #[.int .i64 c.kind, .int .i64 c.o.id, .int .i64 c.o.size, .int .i64 c.o.pick.p, .int .i64 c.o.pick.f, .int .i64 c.o.pick.t, .int .i64 c.o.pick.s, .int .i64 c.o.drop.p, .int .i64 c.o.drop.f, .int .i64 c.o.drop.t, .int .i64 c.o.drop.s, .int .i64 c.d.id, .int .i64 c.d.room, .int .i64 c.d.home, .int .i64 c.d.f, .int .i64 c.d.t, .bool c.d.ret, .int .i64 c.id, .int .i64 c.count] rfl rfl 68 cmdSize rfl rfl ?_)
  all_goals
    go_ret
    refine ⟨?_, ?_⟩
    · first | rfl | (simp only [*, Bool.true_and, Bool.false_and, Bool.and_true, Bool.and_false]; done) | (simp_all; done) | (rw [HZ.out]; simp [Cmd.z, zo_, zd_])
    · first | exact x0 _ _ | exact ((x0 _ _).alloc _) | (repeat (first | exact x0 _ _ | refine Ext.setCell ?_ (.inr (by simp)) _ | refine Ext.alloc ?_ _))

set_option maxRecDepth 100000 in
set_option maxHeartbeats 4000000 in
theorem rRight2_any (c : Cmd) (w : World) (hk : c.kind = 2) :
    Calls Try.prog 46 #[.agg c.cells] w fun e w' => e = .returned (.bool (rightB c)) ∧ Ext None_ w w' := by
  have hn : nmd c.kind = ⟨false, false, true, false, true⟩ := by simp [nmd, hk]
  have e1 : (c.kind == 1) = false := by simp [hk]
  have e2 : (c.kind == 2) = true := by simp [hk]
  have e3 : (c.kind == 3) = false := by simp [hk]
  have e4 : (c.kind == 4) = false := by simp [hk]
  have e5 : (c.kind == 5) = false := by simp [hk]
  have e6 : (c.kind == 6) = false := by simp [hk]
  have e7 : (c.kind == 7) = false := by simp [hk]
  have hr : rightB c = (c.o.z && (c.d.z && (c.count == 0))) := by unfold rightB; rw [hn]; simp
  rw [hr]
  obtain ⟨zz, hz⟩ : ∃ zz, zz = Cmd.z (⟨c.kind, c.o, c.d, 0, c.count⟩ : Cmd) := ⟨_, rfl⟩
  have HZ := Lib.hid hz
  have qc : ∀ W : World, (Op.equalIn 10000 68 (.agg #[.int .i64 c.kind, .int .i64 c.o.id, .int .i64 c.o.size, .int .i64 c.o.pick.p, .int .i64 c.o.pick.f, .int .i64 c.o.pick.t, .int .i64 c.o.pick.s, .int .i64 c.o.drop.p, .int .i64 c.o.drop.f, .int .i64 c.o.drop.t, .int .i64 c.o.drop.s, .int .i64 c.d.id, .int .i64 c.d.room, .int .i64 c.d.home, .int .i64 c.d.f, .int .i64 c.d.t, .bool c.d.ret, .int .i64 0, .int .i64 c.count]) (.agg #[.int .i64 c.kind, .int .i64 0, .int .i64 0, .int .i64 0, .int .i64 0, .int .i64 0, .int .i64 0, .int .i64 0, .int .i64 0, .int .i64 0, .int .i64 0, .int .i64 0, .int .i64 0, .int .i64 0, .int .i64 0, .int .i64 0, .bool false, .int .i64 0, .int .i64 0])).run Try.prog W = .ok zz W := fun W => by rw [hz]; exact eqCmd (⟨c.kind, c.o, c.d, 0, c.count⟩ : Cmd) W
  clear hz
  have hbuild : ∀ W : World, (Instr.build 68 #[(0, .int .i64 c.kind)]).run Try.prog W = .ok (.agg #[.int .i64 c.kind, .int .i64 0, .int .i64 0, .int .i64 0, .int .i64 0, .int .i64 0, .int .i64 0, .int .i64 0, .int .i64 0, .int .i64 0, .int .i64 0, .int .i64 0, .int .i64 0, .int .i64 0, .int .i64 0, .int .i64 0, .bool false, .int .i64 0, .int .i64 0]) W := fun W => run_build W 68 _ _ (by kernel_rfl)
  have qs := storeNew (w.alloc (.cells #[.int .i64 c.kind, .int .i64 c.o.id, .int .i64 c.o.size, .int .i64 c.o.pick.p, .int .i64 c.o.pick.f, .int .i64 c.o.pick.t, .int .i64 c.o.pick.s, .int .i64 c.o.drop.p, .int .i64 c.o.drop.f, .int .i64 c.o.drop.t, .int .i64 c.o.drop.s, .int .i64 c.d.id, .int .i64 c.d.room, .int .i64 c.d.home, .int .i64 c.d.f, .int .i64 c.d.t, .bool c.d.ret, .int .i64 c.id, .int .i64 c.count] 68)) 68 #[.int .i64 0, .int .i64 0, .int .i64 0, .int .i64 0, .int .i64 0, .int .i64 0, .int .i64 0, .int .i64 0, .int .i64 0, .int .i64 0, .int .i64 0, .int .i64 0, .int .i64 0, .int .i64 0, .int .i64 0, .int .i64 0, .bool false, .int .i64 0, .int .i64 0] #[.int .i64 c.kind, .int .i64 c.o.id, .int .i64 c.o.size, .int .i64 c.o.pick.p, .int .i64 c.o.pick.f, .int .i64 c.o.pick.t, .int .i64 c.o.pick.s, .int .i64 c.o.drop.p, .int .i64 c.o.drop.f, .int .i64 c.o.drop.t, .int .i64 c.o.drop.s, .int .i64 c.d.id, .int .i64 c.d.room, .int .i64 c.d.home, .int .i64 c.d.f, .int .i64 c.d.t, .bool c.d.ret, .int .i64 c.id, .int .i64 c.count] cmdSize rfl rfl
  rw [show (w.alloc (.cells #[.int .i64 c.kind, .int .i64 c.o.id, .int .i64 c.o.size, .int .i64 c.o.pick.p, .int .i64 c.o.pick.f, .int .i64 c.o.pick.t, .int .i64 c.o.pick.s, .int .i64 c.o.drop.p, .int .i64 c.o.drop.f, .int .i64 c.o.drop.t, .int .i64 c.o.drop.s, .int .i64 c.d.id, .int .i64 c.d.room, .int .i64 c.d.home, .int .i64 c.d.f, .int .i64 c.d.t, .bool c.d.ret, .int .i64 c.id, .int .i64 c.count] 68)).heap.size = w.heap.size + 1 from by simp] at qs
  clear hr hn hk
  unfold Cmd.cells
  go_enter Try.func46, Try.ntmps46
  go_wp2_with (first | (refine wpList_load_row rfl 68 (.tmp 1) rfl w.heap.size rfl 68 _ (0, 0) _ (Blk.new w _ _) Try.underlying68 rfl cmdSize ?_) | (refine wpList_load_row rfl 68 (.tmp 3) rfl (w.heap.size + 1) rfl 68 _ (0, 0) _ (Blk.new1 w _ _ _) Try.underlying68 rfl cmdSize ?_) | refine wpList_store_new rfl 68 (.tmp 3) (.tmp 4) rfl (w.heap.size + 1) (by simp) #[.int .i64 0, .int .i64 0, .int .i64 0, .int .i64 0, .int .i64 0, .int .i64 0, .int .i64 0, .int .i64 0, .int .i64 0, .int .i64 0, .int .i64 0, .int .i64 0, .int .i64 0, .int .i64 0, .int .i64 0, .int .i64 0, .bool false, .int .i64 0, .int .i64 0] #[.int .i64 c.kind, .int .i64 c.o.id, .int .i64 c.o.size, .int .i64 c.o.pick.p, .int .i64 c.o.pick.f, .int .i64 c.o.pick.t, .int .i64 c.o.pick.s, .int .i64 c.o.drop.p, .int .i64 c.o.drop.f, .int .i64 c.o.drop.t, .int .i64 c.o.drop.s, .int .i64 c.d.id, .int .i64 c.d.room, .int .i64 c.d.home, .int .i64 c.d.f, .int .i64 c.d.t, .bool c.d.ret, .int .i64 c.id, .int .i64 c.count] rfl rfl 68 cmdSize rfl rfl ?_)
  all_goals
    go_ret
    refine ⟨?_, ?_⟩
    · first | rfl | (simp only [*, Bool.true_and, Bool.false_and, Bool.and_true, Bool.and_false]; done) | (simp_all; done) | (rw [HZ.out]; simp [Cmd.z, zo_, zd_])
    · first | exact x0 _ _ | exact ((x0 _ _).alloc _) | (repeat (first | exact x0 _ _ | refine Ext.setCell ?_ (.inr (by simp)) _ | refine Ext.alloc ?_ _))

set_option maxRecDepth 100000 in
set_option maxHeartbeats 4000000 in
theorem rRight4_any (c : Cmd) (w : World) (hk : c.kind = 4) :
    Calls Try.prog 46 #[.agg c.cells] w fun e w' => e = .returned (.bool (rightB c)) ∧ Ext None_ w w' := by
  have hn : nmd c.kind = ⟨false, false, true, false, true⟩ := by simp [nmd, hk]
  have e1 : (c.kind == 1) = false := by simp [hk]
  have e2 : (c.kind == 2) = false := by simp [hk]
  have e3 : (c.kind == 3) = false := by simp [hk]
  have e4 : (c.kind == 4) = true := by simp [hk]
  have e5 : (c.kind == 5) = false := by simp [hk]
  have e6 : (c.kind == 6) = false := by simp [hk]
  have e7 : (c.kind == 7) = false := by simp [hk]
  have hr : rightB c = (c.o.z && (c.d.z && (c.count == 0))) := by unfold rightB; rw [hn]; simp
  rw [hr]
  obtain ⟨zz, hz⟩ : ∃ zz, zz = Cmd.z (⟨c.kind, c.o, c.d, 0, c.count⟩ : Cmd) := ⟨_, rfl⟩
  have HZ := Lib.hid hz
  have qc : ∀ W : World, (Op.equalIn 10000 68 (.agg #[.int .i64 c.kind, .int .i64 c.o.id, .int .i64 c.o.size, .int .i64 c.o.pick.p, .int .i64 c.o.pick.f, .int .i64 c.o.pick.t, .int .i64 c.o.pick.s, .int .i64 c.o.drop.p, .int .i64 c.o.drop.f, .int .i64 c.o.drop.t, .int .i64 c.o.drop.s, .int .i64 c.d.id, .int .i64 c.d.room, .int .i64 c.d.home, .int .i64 c.d.f, .int .i64 c.d.t, .bool c.d.ret, .int .i64 0, .int .i64 c.count]) (.agg #[.int .i64 c.kind, .int .i64 0, .int .i64 0, .int .i64 0, .int .i64 0, .int .i64 0, .int .i64 0, .int .i64 0, .int .i64 0, .int .i64 0, .int .i64 0, .int .i64 0, .int .i64 0, .int .i64 0, .int .i64 0, .int .i64 0, .bool false, .int .i64 0, .int .i64 0])).run Try.prog W = .ok zz W := fun W => by rw [hz]; exact eqCmd (⟨c.kind, c.o, c.d, 0, c.count⟩ : Cmd) W
  clear hz
  have hbuild : ∀ W : World, (Instr.build 68 #[(0, .int .i64 c.kind)]).run Try.prog W = .ok (.agg #[.int .i64 c.kind, .int .i64 0, .int .i64 0, .int .i64 0, .int .i64 0, .int .i64 0, .int .i64 0, .int .i64 0, .int .i64 0, .int .i64 0, .int .i64 0, .int .i64 0, .int .i64 0, .int .i64 0, .int .i64 0, .int .i64 0, .bool false, .int .i64 0, .int .i64 0]) W := fun W => run_build W 68 _ _ (by kernel_rfl)
  have qs := storeNew (w.alloc (.cells #[.int .i64 c.kind, .int .i64 c.o.id, .int .i64 c.o.size, .int .i64 c.o.pick.p, .int .i64 c.o.pick.f, .int .i64 c.o.pick.t, .int .i64 c.o.pick.s, .int .i64 c.o.drop.p, .int .i64 c.o.drop.f, .int .i64 c.o.drop.t, .int .i64 c.o.drop.s, .int .i64 c.d.id, .int .i64 c.d.room, .int .i64 c.d.home, .int .i64 c.d.f, .int .i64 c.d.t, .bool c.d.ret, .int .i64 c.id, .int .i64 c.count] 68)) 68 #[.int .i64 0, .int .i64 0, .int .i64 0, .int .i64 0, .int .i64 0, .int .i64 0, .int .i64 0, .int .i64 0, .int .i64 0, .int .i64 0, .int .i64 0, .int .i64 0, .int .i64 0, .int .i64 0, .int .i64 0, .int .i64 0, .bool false, .int .i64 0, .int .i64 0] #[.int .i64 c.kind, .int .i64 c.o.id, .int .i64 c.o.size, .int .i64 c.o.pick.p, .int .i64 c.o.pick.f, .int .i64 c.o.pick.t, .int .i64 c.o.pick.s, .int .i64 c.o.drop.p, .int .i64 c.o.drop.f, .int .i64 c.o.drop.t, .int .i64 c.o.drop.s, .int .i64 c.d.id, .int .i64 c.d.room, .int .i64 c.d.home, .int .i64 c.d.f, .int .i64 c.d.t, .bool c.d.ret, .int .i64 c.id, .int .i64 c.count] cmdSize rfl rfl
  rw [show (w.alloc (.cells #[.int .i64 c.kind, .int .i64 c.o.id, .int .i64 c.o.size, .int .i64 c.o.pick.p, .int .i64 c.o.pick.f, .int .i64 c.o.pick.t, .int .i64 c.o.pick.s, .int .i64 c.o.drop.p, .int .i64 c.o.drop.f, .int .i64 c.o.drop.t, .int .i64 c.o.drop.s, .int .i64 c.d.id, .int .i64 c.d.room, .int .i64 c.d.home, .int .i64 c.d.f, .int .i64 c.d.t, .bool c.d.ret, .int .i64 c.id, .int .i64 c.count] 68)).heap.size = w.heap.size + 1 from by simp] at qs
  clear hr hn hk
  unfold Cmd.cells
  go_enter Try.func46, Try.ntmps46
  go_wp2_with (first | (refine wpList_load_row rfl 68 (.tmp 1) rfl w.heap.size rfl 68 _ (0, 0) _ (Blk.new w _ _) Try.underlying68 rfl cmdSize ?_) | (refine wpList_load_row rfl 68 (.tmp 3) rfl (w.heap.size + 1) rfl 68 _ (0, 0) _ (Blk.new1 w _ _ _) Try.underlying68 rfl cmdSize ?_) | refine wpList_store_new rfl 68 (.tmp 3) (.tmp 4) rfl (w.heap.size + 1) (by simp) #[.int .i64 0, .int .i64 0, .int .i64 0, .int .i64 0, .int .i64 0, .int .i64 0, .int .i64 0, .int .i64 0, .int .i64 0, .int .i64 0, .int .i64 0, .int .i64 0, .int .i64 0, .int .i64 0, .int .i64 0, .int .i64 0, .bool false, .int .i64 0, .int .i64 0] #[.int .i64 c.kind, .int .i64 c.o.id, .int .i64 c.o.size, .int .i64 c.o.pick.p, .int .i64 c.o.pick.f, .int .i64 c.o.pick.t, .int .i64 c.o.pick.s, .int .i64 c.o.drop.p, .int .i64 c.o.drop.f, .int .i64 c.o.drop.t, .int .i64 c.o.drop.s, .int .i64 c.d.id, .int .i64 c.d.room, .int .i64 c.d.home, .int .i64 c.d.f, .int .i64 c.d.t, .bool c.d.ret, .int .i64 c.id, .int .i64 c.count] rfl rfl 68 cmdSize rfl rfl ?_)
  all_goals
    go_ret
    refine ⟨?_, ?_⟩
    · first | rfl | (simp only [*, Bool.true_and, Bool.false_and, Bool.and_true, Bool.and_false]; done) | (simp_all; done) | (rw [HZ.out]; simp [Cmd.z, zo_, zd_])
    · first | exact x0 _ _ | exact ((x0 _ _).alloc _) | (repeat (first | exact x0 _ _ | refine Ext.setCell ?_ (.inr (by simp)) _ | refine Ext.alloc ?_ _))

set_option maxRecDepth 100000 in
set_option maxHeartbeats 4000000 in
theorem rRight7_any (c : Cmd) (w : World) (hk : c.kind = 7) :
    Calls Try.prog 46 #[.agg c.cells] w fun e w' => e = .returned (.bool (rightB c)) ∧ Ext None_ w w' := by
  have hn : nmd c.kind = ⟨false, false, true, false, true⟩ := by simp [nmd, hk]
  have e1 : (c.kind == 1) = false := by simp [hk]
  have e2 : (c.kind == 2) = false := by simp [hk]
  have e3 : (c.kind == 3) = false := by simp [hk]
  have e4 : (c.kind == 4) = false := by simp [hk]
  have e5 : (c.kind == 5) = false := by simp [hk]
  have e6 : (c.kind == 6) = false := by simp [hk]
  have e7 : (c.kind == 7) = true := by simp [hk]
  have hr : rightB c = (c.o.z && (c.d.z && (c.count == 0))) := by unfold rightB; rw [hn]; simp
  rw [hr]
  obtain ⟨zz, hz⟩ : ∃ zz, zz = Cmd.z (⟨c.kind, c.o, c.d, 0, c.count⟩ : Cmd) := ⟨_, rfl⟩
  have HZ := Lib.hid hz
  have qc : ∀ W : World, (Op.equalIn 10000 68 (.agg #[.int .i64 c.kind, .int .i64 c.o.id, .int .i64 c.o.size, .int .i64 c.o.pick.p, .int .i64 c.o.pick.f, .int .i64 c.o.pick.t, .int .i64 c.o.pick.s, .int .i64 c.o.drop.p, .int .i64 c.o.drop.f, .int .i64 c.o.drop.t, .int .i64 c.o.drop.s, .int .i64 c.d.id, .int .i64 c.d.room, .int .i64 c.d.home, .int .i64 c.d.f, .int .i64 c.d.t, .bool c.d.ret, .int .i64 0, .int .i64 c.count]) (.agg #[.int .i64 c.kind, .int .i64 0, .int .i64 0, .int .i64 0, .int .i64 0, .int .i64 0, .int .i64 0, .int .i64 0, .int .i64 0, .int .i64 0, .int .i64 0, .int .i64 0, .int .i64 0, .int .i64 0, .int .i64 0, .int .i64 0, .bool false, .int .i64 0, .int .i64 0])).run Try.prog W = .ok zz W := fun W => by rw [hz]; exact eqCmd (⟨c.kind, c.o, c.d, 0, c.count⟩ : Cmd) W
  clear hz
  have hbuild : ∀ W : World, (Instr.build 68 #[(0, .int .i64 c.kind)]).run Try.prog W = .ok (.agg #[.int .i64 c.kind, .int .i64 0, .int .i64 0, .int .i64 0, .int .i64 0, .int .i64 0, .int .i64 0, .int .i64 0, .int .i64 0, .int .i64 0, .int .i64 0, .int .i64 0, .int .i64 0, .int .i64 0, .int .i64 0, .int .i64 0, .bool false, .int .i64 0, .int .i64 0]) W := fun W => run_build W 68 _ _ (by kernel_rfl)
  have qs := storeNew (w.alloc (.cells #[.int .i64 c.kind, .int .i64 c.o.id, .int .i64 c.o.size, .int .i64 c.o.pick.p, .int .i64 c.o.pick.f, .int .i64 c.o.pick.t, .int .i64 c.o.pick.s, .int .i64 c.o.drop.p, .int .i64 c.o.drop.f, .int .i64 c.o.drop.t, .int .i64 c.o.drop.s, .int .i64 c.d.id, .int .i64 c.d.room, .int .i64 c.d.home, .int .i64 c.d.f, .int .i64 c.d.t, .bool c.d.ret, .int .i64 c.id, .int .i64 c.count] 68)) 68 #[.int .i64 0, .int .i64 0, .int .i64 0, .int .i64 0, .int .i64 0, .int .i64 0, .int .i64 0, .int .i64 0, .int .i64 0, .int .i64 0, .int .i64 0, .int .i64 0, .int .i64 0, .int .i64 0, .int .i64 0, .int .i64 0, .bool false, .int .i64 0, .int .i64 0] #[.int .i64 c.kind, .int .i64 c.o.id, .int .i64 c.o.size, .int .i64 c.o.pick.p, .int .i64 c.o.pick.f, .int .i64 c.o.pick.t, .int .i64 c.o.pick.s, .int .i64 c.o.drop.p, .int .i64 c.o.drop.f, .int .i64 c.o.drop.t, .int .i64 c.o.drop.s, .int .i64 c.d.id, .int .i64 c.d.room, .int .i64 c.d.home, .int .i64 c.d.f, .int .i64 c.d.t, .bool c.d.ret, .int .i64 c.id, .int .i64 c.count] cmdSize rfl rfl
  rw [show (w.alloc (.cells #[.int .i64 c.kind, .int .i64 c.o.id, .int .i64 c.o.size, .int .i64 c.o.pick.p, .int .i64 c.o.pick.f, .int .i64 c.o.pick.t, .int .i64 c.o.pick.s, .int .i64 c.o.drop.p, .int .i64 c.o.drop.f, .int .i64 c.o.drop.t, .int .i64 c.o.drop.s, .int .i64 c.d.id, .int .i64 c.d.room, .int .i64 c.d.home, .int .i64 c.d.f, .int .i64 c.d.t, .bool c.d.ret, .int .i64 c.id, .int .i64 c.count] 68)).heap.size = w.heap.size + 1 from by simp] at qs
  clear hr hn hk
  unfold Cmd.cells
  go_enter Try.func46, Try.ntmps46
  go_wp2_with (first | (refine wpList_load_row rfl 68 (.tmp 1) rfl w.heap.size rfl 68 _ (0, 0) _ (Blk.new w _ _) Try.underlying68 rfl cmdSize ?_) | (refine wpList_load_row rfl 68 (.tmp 3) rfl (w.heap.size + 1) rfl 68 _ (0, 0) _ (Blk.new1 w _ _ _) Try.underlying68 rfl cmdSize ?_) | refine wpList_store_new rfl 68 (.tmp 3) (.tmp 4) rfl (w.heap.size + 1) (by simp) #[.int .i64 0, .int .i64 0, .int .i64 0, .int .i64 0, .int .i64 0, .int .i64 0, .int .i64 0, .int .i64 0, .int .i64 0, .int .i64 0, .int .i64 0, .int .i64 0, .int .i64 0, .int .i64 0, .int .i64 0, .int .i64 0, .bool false, .int .i64 0, .int .i64 0] #[.int .i64 c.kind, .int .i64 c.o.id, .int .i64 c.o.size, .int .i64 c.o.pick.p, .int .i64 c.o.pick.f, .int .i64 c.o.pick.t, .int .i64 c.o.pick.s, .int .i64 c.o.drop.p, .int .i64 c.o.drop.f, .int .i64 c.o.drop.t, .int .i64 c.o.drop.s, .int .i64 c.d.id, .int .i64 c.d.room, .int .i64 c.d.home, .int .i64 c.d.f, .int .i64 c.d.t, .bool c.d.ret, .int .i64 c.id, .int .i64 c.count] rfl rfl 68 cmdSize rfl rfl ?_)
  all_goals
    go_ret
    refine ⟨?_, ?_⟩
    · first | rfl | (simp only [*, Bool.true_and, Bool.false_and, Bool.and_true, Bool.and_false]; done) | (simp_all; done) | (rw [HZ.out]; simp [Cmd.z, zo_, zd_])
    · first | exact x0 _ _ | exact ((x0 _ _).alloc _) | (repeat (first | exact x0 _ _ | refine Ext.setCell ?_ (.inr (by simp)) _ | refine Ext.alloc ?_ _))

set_option maxRecDepth 100000 in
set_option maxHeartbeats 4000000 in
theorem rRight3_any (c : Cmd) (w : World) (hk : c.kind = 3) :
    Calls Try.prog 46 #[.agg c.cells] w fun e w' => e = .returned (.bool (rightB c)) ∧ Ext None_ w w' := by
  have hn : nmd c.kind = ⟨false, true, false, false, true⟩ := by simp [nmd, hk]
  have e1 : (c.kind == 1) = false := by simp [hk]
  have e2 : (c.kind == 2) = false := by simp [hk]
  have e3 : (c.kind == 3) = true := by simp [hk]
  have e4 : (c.kind == 4) = false := by simp [hk]
  have e5 : (c.kind == 5) = false := by simp [hk]
  have e6 : (c.kind == 6) = false := by simp [hk]
  have e7 : (c.kind == 7) = false := by simp [hk]
  have hr : rightB c = (c.o.z && (c.id == 0 && (c.count == 0))) := by unfold rightB; rw [hn]; simp
  rw [hr]
  obtain ⟨zz, hz⟩ : ∃ zz, zz = Cmd.z (⟨c.kind, c.o, ⟨0, 0, 0, 0, 0, false⟩, c.id, c.count⟩ : Cmd) := ⟨_, rfl⟩
  have HZ := Lib.hid hz
  have qc : ∀ W : World, (Op.equalIn 10000 68 (.agg #[.int .i64 c.kind, .int .i64 c.o.id, .int .i64 c.o.size, .int .i64 c.o.pick.p, .int .i64 c.o.pick.f, .int .i64 c.o.pick.t, .int .i64 c.o.pick.s, .int .i64 c.o.drop.p, .int .i64 c.o.drop.f, .int .i64 c.o.drop.t, .int .i64 c.o.drop.s, .int .i64 0, .int .i64 0, .int .i64 0, .int .i64 0, .int .i64 0, .bool false, .int .i64 c.id, .int .i64 c.count]) (.agg #[.int .i64 c.kind, .int .i64 0, .int .i64 0, .int .i64 0, .int .i64 0, .int .i64 0, .int .i64 0, .int .i64 0, .int .i64 0, .int .i64 0, .int .i64 0, .int .i64 0, .int .i64 0, .int .i64 0, .int .i64 0, .int .i64 0, .bool false, .int .i64 0, .int .i64 0])).run Try.prog W = .ok zz W := fun W => by rw [hz]; exact eqCmd (⟨c.kind, c.o, ⟨0, 0, 0, 0, 0, false⟩, c.id, c.count⟩ : Cmd) W
  clear hz
  have hbuild : ∀ W : World, (Instr.build 68 #[(0, .int .i64 c.kind)]).run Try.prog W = .ok (.agg #[.int .i64 c.kind, .int .i64 0, .int .i64 0, .int .i64 0, .int .i64 0, .int .i64 0, .int .i64 0, .int .i64 0, .int .i64 0, .int .i64 0, .int .i64 0, .int .i64 0, .int .i64 0, .int .i64 0, .int .i64 0, .int .i64 0, .bool false, .int .i64 0, .int .i64 0]) W := fun W => run_build W 68 _ _ (by kernel_rfl)
  have qs := storeNew (w.alloc (.cells #[.int .i64 c.kind, .int .i64 c.o.id, .int .i64 c.o.size, .int .i64 c.o.pick.p, .int .i64 c.o.pick.f, .int .i64 c.o.pick.t, .int .i64 c.o.pick.s, .int .i64 c.o.drop.p, .int .i64 c.o.drop.f, .int .i64 c.o.drop.t, .int .i64 c.o.drop.s, .int .i64 c.d.id, .int .i64 c.d.room, .int .i64 c.d.home, .int .i64 c.d.f, .int .i64 c.d.t, .bool c.d.ret, .int .i64 c.id, .int .i64 c.count] 68)) 68 #[.int .i64 0, .int .i64 0, .int .i64 0, .int .i64 0, .int .i64 0, .int .i64 0, .int .i64 0, .int .i64 0, .int .i64 0, .int .i64 0, .int .i64 0, .int .i64 0, .int .i64 0, .int .i64 0, .int .i64 0, .int .i64 0, .bool false, .int .i64 0, .int .i64 0] #[.int .i64 c.kind, .int .i64 c.o.id, .int .i64 c.o.size, .int .i64 c.o.pick.p, .int .i64 c.o.pick.f, .int .i64 c.o.pick.t, .int .i64 c.o.pick.s, .int .i64 c.o.drop.p, .int .i64 c.o.drop.f, .int .i64 c.o.drop.t, .int .i64 c.o.drop.s, .int .i64 c.d.id, .int .i64 c.d.room, .int .i64 c.d.home, .int .i64 c.d.f, .int .i64 c.d.t, .bool c.d.ret, .int .i64 c.id, .int .i64 c.count] cmdSize rfl rfl
  rw [show (w.alloc (.cells #[.int .i64 c.kind, .int .i64 c.o.id, .int .i64 c.o.size, .int .i64 c.o.pick.p, .int .i64 c.o.pick.f, .int .i64 c.o.pick.t, .int .i64 c.o.pick.s, .int .i64 c.o.drop.p, .int .i64 c.o.drop.f, .int .i64 c.o.drop.t, .int .i64 c.o.drop.s, .int .i64 c.d.id, .int .i64 c.d.room, .int .i64 c.d.home, .int .i64 c.d.f, .int .i64 c.d.t, .bool c.d.ret, .int .i64 c.id, .int .i64 c.count] 68)).heap.size = w.heap.size + 1 from by simp] at qs
  clear hr hn hk
  unfold Cmd.cells
  go_enter Try.func46, Try.ntmps46
  go_wp2_with (first | (refine wpList_load_row rfl 68 (.tmp 1) rfl w.heap.size rfl 68 _ (0, 0) _ (Blk.new w _ _) Try.underlying68 rfl cmdSize ?_) | (refine wpList_load_row rfl 68 (.tmp 3) rfl (w.heap.size + 1) rfl 68 _ (0, 0) _ (Blk.new1 w _ _ _) Try.underlying68 rfl cmdSize ?_) | refine wpList_store_new rfl 68 (.tmp 3) (.tmp 4) rfl (w.heap.size + 1) (by simp) #[.int .i64 0, .int .i64 0, .int .i64 0, .int .i64 0, .int .i64 0, .int .i64 0, .int .i64 0, .int .i64 0, .int .i64 0, .int .i64 0, .int .i64 0, .int .i64 0, .int .i64 0, .int .i64 0, .int .i64 0, .int .i64 0, .bool false, .int .i64 0, .int .i64 0] #[.int .i64 c.kind, .int .i64 c.o.id, .int .i64 c.o.size, .int .i64 c.o.pick.p, .int .i64 c.o.pick.f, .int .i64 c.o.pick.t, .int .i64 c.o.pick.s, .int .i64 c.o.drop.p, .int .i64 c.o.drop.f, .int .i64 c.o.drop.t, .int .i64 c.o.drop.s, .int .i64 c.d.id, .int .i64 c.d.room, .int .i64 c.d.home, .int .i64 c.d.f, .int .i64 c.d.t, .bool c.d.ret, .int .i64 c.id, .int .i64 c.count] rfl rfl 68 cmdSize rfl rfl ?_)
  all_goals
    go_ret
    refine ⟨?_, ?_⟩
    · first | rfl | (simp only [*, Bool.true_and, Bool.false_and, Bool.and_true, Bool.and_false]; done) | (simp_all; done) | (rw [HZ.out]; simp [Cmd.z, zo_, zd_])
    · first | exact x0 _ _ | exact ((x0 _ _).alloc _) | (repeat (first | exact x0 _ _ | refine Ext.setCell ?_ (.inr (by simp)) _ | refine Ext.alloc ?_ _))

set_option maxRecDepth 100000 in
set_option maxHeartbeats 4000000 in
theorem rRight5_any (c : Cmd) (w : World) (hk : c.kind = 5) :
    Calls Try.prog 46 #[.agg c.cells] w fun e w' => e = .returned (.bool (rightB c)) ∧ Ext None_ w w' := by
  have hn : nmd c.kind = ⟨false, false, true, true, true⟩ := by simp [nmd, hk]
  have e1 : (c.kind == 1) = false := by simp [hk]
  have e2 : (c.kind == 2) = false := by simp [hk]
  have e3 : (c.kind == 3) = false := by simp [hk]
  have e4 : (c.kind == 4) = false := by simp [hk]
  have e5 : (c.kind == 5) = true := by simp [hk]
  have e6 : (c.kind == 6) = false := by simp [hk]
  have e7 : (c.kind == 7) = false := by simp [hk]
  have hr : rightB c = (c.o.z && (c.d.z)) := by unfold rightB; rw [hn]; simp
  rw [hr]
  obtain ⟨zz, hz⟩ : ∃ zz, zz = Cmd.z (⟨c.kind, c.o, c.d, 0, 0⟩ : Cmd) := ⟨_, rfl⟩
  have HZ := Lib.hid hz
  have qc : ∀ W : World, (Op.equalIn 10000 68 (.agg #[.int .i64 c.kind, .int .i64 c.o.id, .int .i64 c.o.size, .int .i64 c.o.pick.p, .int .i64 c.o.pick.f, .int .i64 c.o.pick.t, .int .i64 c.o.pick.s, .int .i64 c.o.drop.p, .int .i64 c.o.drop.f, .int .i64 c.o.drop.t, .int .i64 c.o.drop.s, .int .i64 c.d.id, .int .i64 c.d.room, .int .i64 c.d.home, .int .i64 c.d.f, .int .i64 c.d.t, .bool c.d.ret, .int .i64 0, .int .i64 0]) (.agg #[.int .i64 c.kind, .int .i64 0, .int .i64 0, .int .i64 0, .int .i64 0, .int .i64 0, .int .i64 0, .int .i64 0, .int .i64 0, .int .i64 0, .int .i64 0, .int .i64 0, .int .i64 0, .int .i64 0, .int .i64 0, .int .i64 0, .bool false, .int .i64 0, .int .i64 0])).run Try.prog W = .ok zz W := fun W => by rw [hz]; exact eqCmd (⟨c.kind, c.o, c.d, 0, 0⟩ : Cmd) W
  clear hz
  have hbuild : ∀ W : World, (Instr.build 68 #[(0, .int .i64 c.kind)]).run Try.prog W = .ok (.agg #[.int .i64 c.kind, .int .i64 0, .int .i64 0, .int .i64 0, .int .i64 0, .int .i64 0, .int .i64 0, .int .i64 0, .int .i64 0, .int .i64 0, .int .i64 0, .int .i64 0, .int .i64 0, .int .i64 0, .int .i64 0, .int .i64 0, .bool false, .int .i64 0, .int .i64 0]) W := fun W => run_build W 68 _ _ (by kernel_rfl)
  have qs := storeNew (w.alloc (.cells #[.int .i64 c.kind, .int .i64 c.o.id, .int .i64 c.o.size, .int .i64 c.o.pick.p, .int .i64 c.o.pick.f, .int .i64 c.o.pick.t, .int .i64 c.o.pick.s, .int .i64 c.o.drop.p, .int .i64 c.o.drop.f, .int .i64 c.o.drop.t, .int .i64 c.o.drop.s, .int .i64 c.d.id, .int .i64 c.d.room, .int .i64 c.d.home, .int .i64 c.d.f, .int .i64 c.d.t, .bool c.d.ret, .int .i64 c.id, .int .i64 c.count] 68)) 68 #[.int .i64 0, .int .i64 0, .int .i64 0, .int .i64 0, .int .i64 0, .int .i64 0, .int .i64 0, .int .i64 0, .int .i64 0, .int .i64 0, .int .i64 0, .int .i64 0, .int .i64 0, .int .i64 0, .int .i64 0, .int .i64 0, .bool false, .int .i64 0, .int .i64 0] #[.int .i64 c.kind, .int .i64 c.o.id, .int .i64 c.o.size, .int .i64 c.o.pick.p, .int .i64 c.o.pick.f, .int .i64 c.o.pick.t, .int .i64 c.o.pick.s, .int .i64 c.o.drop.p, .int .i64 c.o.drop.f, .int .i64 c.o.drop.t, .int .i64 c.o.drop.s, .int .i64 c.d.id, .int .i64 c.d.room, .int .i64 c.d.home, .int .i64 c.d.f, .int .i64 c.d.t, .bool c.d.ret, .int .i64 c.id, .int .i64 c.count] cmdSize rfl rfl
  rw [show (w.alloc (.cells #[.int .i64 c.kind, .int .i64 c.o.id, .int .i64 c.o.size, .int .i64 c.o.pick.p, .int .i64 c.o.pick.f, .int .i64 c.o.pick.t, .int .i64 c.o.pick.s, .int .i64 c.o.drop.p, .int .i64 c.o.drop.f, .int .i64 c.o.drop.t, .int .i64 c.o.drop.s, .int .i64 c.d.id, .int .i64 c.d.room, .int .i64 c.d.home, .int .i64 c.d.f, .int .i64 c.d.t, .bool c.d.ret, .int .i64 c.id, .int .i64 c.count] 68)).heap.size = w.heap.size + 1 from by simp] at qs
  clear hr hn hk
  unfold Cmd.cells
  go_enter Try.func46, Try.ntmps46
  go_wp2_with (first | (refine wpList_load_row rfl 68 (.tmp 1) rfl w.heap.size rfl 68 _ (0, 0) _ (Blk.new w _ _) Try.underlying68 rfl cmdSize ?_) | (refine wpList_load_row rfl 68 (.tmp 3) rfl (w.heap.size + 1) rfl 68 _ (0, 0) _ (Blk.new1 w _ _ _) Try.underlying68 rfl cmdSize ?_) | refine wpList_store_new rfl 68 (.tmp 3) (.tmp 4) rfl (w.heap.size + 1) (by simp) #[.int .i64 0, .int .i64 0, .int .i64 0, .int .i64 0, .int .i64 0, .int .i64 0, .int .i64 0, .int .i64 0, .int .i64 0, .int .i64 0, .int .i64 0, .int .i64 0, .int .i64 0, .int .i64 0, .int .i64 0, .int .i64 0, .bool false, .int .i64 0, .int .i64 0] #[.int .i64 c.kind, .int .i64 c.o.id, .int .i64 c.o.size, .int .i64 c.o.pick.p, .int .i64 c.o.pick.f, .int .i64 c.o.pick.t, .int .i64 c.o.pick.s, .int .i64 c.o.drop.p, .int .i64 c.o.drop.f, .int .i64 c.o.drop.t, .int .i64 c.o.drop.s, .int .i64 c.d.id, .int .i64 c.d.room, .int .i64 c.d.home, .int .i64 c.d.f, .int .i64 c.d.t, .bool c.d.ret, .int .i64 c.id, .int .i64 c.count] rfl rfl 68 cmdSize rfl rfl ?_)
  all_goals
    go_ret
    refine ⟨?_, ?_⟩
    · first | rfl | (simp only [*, Bool.true_and, Bool.false_and, Bool.and_true, Bool.and_false]; done) | (simp_all; done) | (rw [HZ.out]; simp [Cmd.z, zo_, zd_])
    · first | exact x0 _ _ | exact ((x0 _ _).alloc _) | (repeat (first | exact x0 _ _ | refine Ext.setCell ?_ (.inr (by simp)) _ | refine Ext.alloc ?_ _))

set_option maxRecDepth 100000 in
set_option maxHeartbeats 4000000 in
theorem rRight6_any (c : Cmd) (w : World) (hk : c.kind = 6) :
    Calls Try.prog 46 #[.agg c.cells] w fun e w' => e = .returned (.bool (rightB c)) ∧ Ext None_ w w' := by
  have hn : nmd c.kind = ⟨false, false, false, true, true⟩ := by simp [nmd, hk]
  have e1 : (c.kind == 1) = false := by simp [hk]
  have e2 : (c.kind == 2) = false := by simp [hk]
  have e3 : (c.kind == 3) = false := by simp [hk]
  have e4 : (c.kind == 4) = false := by simp [hk]
  have e5 : (c.kind == 5) = false := by simp [hk]
  have e6 : (c.kind == 6) = true := by simp [hk]
  have e7 : (c.kind == 7) = false := by simp [hk]
  have hr : rightB c = (c.o.z && (c.d.z && (c.id == 0))) := by unfold rightB; rw [hn]; simp
  rw [hr]
  obtain ⟨zz, hz⟩ : ∃ zz, zz = Cmd.z (⟨c.kind, c.o, c.d, c.id, 0⟩ : Cmd) := ⟨_, rfl⟩
  have HZ := Lib.hid hz
  have qc : ∀ W : World, (Op.equalIn 10000 68 (.agg #[.int .i64 c.kind, .int .i64 c.o.id, .int .i64 c.o.size, .int .i64 c.o.pick.p, .int .i64 c.o.pick.f, .int .i64 c.o.pick.t, .int .i64 c.o.pick.s, .int .i64 c.o.drop.p, .int .i64 c.o.drop.f, .int .i64 c.o.drop.t, .int .i64 c.o.drop.s, .int .i64 c.d.id, .int .i64 c.d.room, .int .i64 c.d.home, .int .i64 c.d.f, .int .i64 c.d.t, .bool c.d.ret, .int .i64 c.id, .int .i64 0]) (.agg #[.int .i64 c.kind, .int .i64 0, .int .i64 0, .int .i64 0, .int .i64 0, .int .i64 0, .int .i64 0, .int .i64 0, .int .i64 0, .int .i64 0, .int .i64 0, .int .i64 0, .int .i64 0, .int .i64 0, .int .i64 0, .int .i64 0, .bool false, .int .i64 0, .int .i64 0])).run Try.prog W = .ok zz W := fun W => by rw [hz]; exact eqCmd (⟨c.kind, c.o, c.d, c.id, 0⟩ : Cmd) W
  clear hz
  have hbuild : ∀ W : World, (Instr.build 68 #[(0, .int .i64 c.kind)]).run Try.prog W = .ok (.agg #[.int .i64 c.kind, .int .i64 0, .int .i64 0, .int .i64 0, .int .i64 0, .int .i64 0, .int .i64 0, .int .i64 0, .int .i64 0, .int .i64 0, .int .i64 0, .int .i64 0, .int .i64 0, .int .i64 0, .int .i64 0, .int .i64 0, .bool false, .int .i64 0, .int .i64 0]) W := fun W => run_build W 68 _ _ (by kernel_rfl)
  have qs := storeNew (w.alloc (.cells #[.int .i64 c.kind, .int .i64 c.o.id, .int .i64 c.o.size, .int .i64 c.o.pick.p, .int .i64 c.o.pick.f, .int .i64 c.o.pick.t, .int .i64 c.o.pick.s, .int .i64 c.o.drop.p, .int .i64 c.o.drop.f, .int .i64 c.o.drop.t, .int .i64 c.o.drop.s, .int .i64 c.d.id, .int .i64 c.d.room, .int .i64 c.d.home, .int .i64 c.d.f, .int .i64 c.d.t, .bool c.d.ret, .int .i64 c.id, .int .i64 c.count] 68)) 68 #[.int .i64 0, .int .i64 0, .int .i64 0, .int .i64 0, .int .i64 0, .int .i64 0, .int .i64 0, .int .i64 0, .int .i64 0, .int .i64 0, .int .i64 0, .int .i64 0, .int .i64 0, .int .i64 0, .int .i64 0, .int .i64 0, .bool false, .int .i64 0, .int .i64 0] #[.int .i64 c.kind, .int .i64 c.o.id, .int .i64 c.o.size, .int .i64 c.o.pick.p, .int .i64 c.o.pick.f, .int .i64 c.o.pick.t, .int .i64 c.o.pick.s, .int .i64 c.o.drop.p, .int .i64 c.o.drop.f, .int .i64 c.o.drop.t, .int .i64 c.o.drop.s, .int .i64 c.d.id, .int .i64 c.d.room, .int .i64 c.d.home, .int .i64 c.d.f, .int .i64 c.d.t, .bool c.d.ret, .int .i64 c.id, .int .i64 c.count] cmdSize rfl rfl
  rw [show (w.alloc (.cells #[.int .i64 c.kind, .int .i64 c.o.id, .int .i64 c.o.size, .int .i64 c.o.pick.p, .int .i64 c.o.pick.f, .int .i64 c.o.pick.t, .int .i64 c.o.pick.s, .int .i64 c.o.drop.p, .int .i64 c.o.drop.f, .int .i64 c.o.drop.t, .int .i64 c.o.drop.s, .int .i64 c.d.id, .int .i64 c.d.room, .int .i64 c.d.home, .int .i64 c.d.f, .int .i64 c.d.t, .bool c.d.ret, .int .i64 c.id, .int .i64 c.count] 68)).heap.size = w.heap.size + 1 from by simp] at qs
  clear hr hn hk
  unfold Cmd.cells
  go_enter Try.func46, Try.ntmps46
  go_wp2_with (first | (refine wpList_load_row rfl 68 (.tmp 1) rfl w.heap.size rfl 68 _ (0, 0) _ (Blk.new w _ _) Try.underlying68 rfl cmdSize ?_) | (refine wpList_load_row rfl 68 (.tmp 3) rfl (w.heap.size + 1) rfl 68 _ (0, 0) _ (Blk.new1 w _ _ _) Try.underlying68 rfl cmdSize ?_) | refine wpList_store_new rfl 68 (.tmp 3) (.tmp 4) rfl (w.heap.size + 1) (by simp) #[.int .i64 0, .int .i64 0, .int .i64 0, .int .i64 0, .int .i64 0, .int .i64 0, .int .i64 0, .int .i64 0, .int .i64 0, .int .i64 0, .int .i64 0, .int .i64 0, .int .i64 0, .int .i64 0, .int .i64 0, .int .i64 0, .bool false, .int .i64 0, .int .i64 0] #[.int .i64 c.kind, .int .i64 c.o.id, .int .i64 c.o.size, .int .i64 c.o.pick.p, .int .i64 c.o.pick.f, .int .i64 c.o.pick.t, .int .i64 c.o.pick.s, .int .i64 c.o.drop.p, .int .i64 c.o.drop.f, .int .i64 c.o.drop.t, .int .i64 c.o.drop.s, .int .i64 c.d.id, .int .i64 c.d.room, .int .i64 c.d.home, .int .i64 c.d.f, .int .i64 c.d.t, .bool c.d.ret, .int .i64 c.id, .int .i64 c.count] rfl rfl 68 cmdSize rfl rfl ?_)
  all_goals
    go_ret
    refine ⟨?_, ?_⟩
    · first | rfl | (simp only [*, Bool.true_and, Bool.false_and, Bool.and_true, Bool.and_false]; done) | (simp_all; done) | (rw [HZ.out]; simp [Cmd.z, zo_, zd_])
    · first | exact x0 _ _ | exact ((x0 _ _).alloc _) | (repeat (first | exact x0 _ _ | refine Ext.setCell ?_ (.inr (by simp)) _ | refine Ext.alloc ?_ _))

set_option maxRecDepth 100000 in
set_option maxHeartbeats 4000000 in
theorem rRight0_any (c : Cmd) (w : World) (hk : ¬ c.kind = 1 ∧ ¬ c.kind = 2 ∧ ¬ c.kind = 3 ∧ ¬ c.kind = 4 ∧ ¬ c.kind = 5 ∧ ¬ c.kind = 6 ∧ ¬ c.kind = 7) :
    Calls Try.prog 46 #[.agg c.cells] w fun e w' => e = .returned (.bool (rightB c)) ∧ Ext None_ w w' := by
  obtain ⟨k1, k2, k3, k4, k5, k6, k7⟩ := hk
  have hn : nmd c.kind = ⟨false, false, false, false, false⟩ := by simp [nmd, k1, k2, k3, k4, k5, k6, k7]
  have e1 : (c.kind == 1) = false := by simp [k1]
  have e2 : (c.kind == 2) = false := by simp [k2]
  have e3 : (c.kind == 3) = false := by simp [k3]
  have e4 : (c.kind == 4) = false := by simp [k4]
  have e5 : (c.kind == 5) = false := by simp [k5]
  have e6 : (c.kind == 6) = false := by simp [k6]
  have e7 : (c.kind == 7) = false := by simp [k7]
  have hr : rightB c = (false) := by unfold rightB; rw [hn]; simp
  rw [hr]
  clear hr hn k1 k2 k3 k4 k5 k6 k7
  unfold Cmd.cells
  go_enter Try.func46, Try.ntmps46
  go_wp2_with (first | (refine wpList_load_row rfl 68 (.tmp 1) rfl w.heap.size rfl 68 _ (0, 0) _ (Blk.new w _ _) Try.underlying68 rfl cmdSize ?_) | (refine wpList_load_row rfl 68 (.tmp 3) rfl (w.heap.size + 1) rfl 68 _ (0, 0) _ (Blk.new1 w _ _ _) Try.underlying68 rfl cmdSize ?_) | refine wpList_store_new rfl 68 (.tmp 3) (.tmp 4) rfl (w.heap.size + 1) (by simp) #[.int .i64 0, .int .i64 0, .int .i64 0, .int .i64 0, .int .i64 0, .int .i64 0, .int .i64 0, .int .i64 0, .int .i64 0, .int .i64 0, .int .i64 0, .int .i64 0, .int .i64 0, .int .i64 0, .int .i64 0, .int .i64 0, .bool false, .int .i64 0, .int .i64 0] #[.int .i64 c.kind, .int .i64 c.o.id, .int .i64 c.o.size, .int .i64 c.o.pick.p, .int .i64 c.o.pick.f, .int .i64 c.o.pick.t, .int .i64 c.o.pick.s, .int .i64 c.o.drop.p, .int .i64 c.o.drop.f, .int .i64 c.o.drop.t, .int .i64 c.o.drop.s, .int .i64 c.d.id, .int .i64 c.d.room, .int .i64 c.d.home, .int .i64 c.d.f, .int .i64 c.d.t, .bool c.d.ret, .int .i64 c.id, .int .i64 c.count] rfl rfl 68 cmdSize rfl rfl ?_)
  all_goals
    go_ret
    refine ⟨?_, ?_⟩
    · first | rfl | (simp only [*, Bool.true_and, Bool.false_and, Bool.and_true, Bool.and_false]; done) | (simp_all; done) | (rw [HZ.out]; simp [Cmd.z, zo_, zd_])
    · first | exact x0 _ _ | exact ((x0 _ _).alloc _) | (repeat (first | exact x0 _ _ | refine Ext.setCell ?_ (.inr (by simp)) _ | refine Ext.alloc ?_ _))

theorem rRight_any (c : Cmd) (w : World) :
    Calls Try.prog 46 #[.agg c.cells] w fun e w' => e = .returned (.bool (rightB c)) ∧ Ext None_ w w' := by
  by_cases k1 : c.kind = 1
  · exact rRight1_any c w k1
  by_cases k2 : c.kind = 2
  · exact rRight2_any c w k2
  by_cases k3 : c.kind = 3
  · exact rRight3_any c w k3
  by_cases k4 : c.kind = 4
  · exact rRight4_any c w k4
  by_cases k5 : c.kind = 5
  · exact rRight5_any c w k5
  by_cases k6 : c.kind = 6
  · exact rRight6_any c w k6
  by_cases k7 : c.kind = 7
  · exact rRight7_any c w k7
  exact rRight0_any c w ⟨k1, k2, k3, k4, k5, k6, k7⟩

end Go.Proofs.Ytmobdofkiddfhaa
