/- Chapter 15's statements, walked: CommandApart. Written by gen_l15d.py. -/
import Derived.Test.YtmobdofkiddfhaaCmdZ
import Derived.Test.YtmobdofkiddfhaaP15
set_option linter.unusedVariables false
set_option linter.unusedSimpArgs false
namespace Go.Proofs.Ytmobdofkiddfhaa
open Go.RowKit B

/-- A guarded load of a whole struct, as the walk leaves it. -/
theorem wpList_load_mid_g {P : Program} {ops : Array Oper} {rest : List Oper} {op : Oper} {a : Act} {w : World} {Q : Exit → Act → World → Prop} (hw : Region.wanted op (yielded ops a.tmps) = true) (ty : TypeId) (x : Operand) (ho : op.op = .load ty x)
    (b o : Nat) (hx : a.eval x = .pointer (some ⟨b, o, none⟩)) (cs : List Value) (d : TypeDesc) (hc : w.rangeAt b o cs)
    (hu : P.underlying ty = some d) (hd : d.isRow = true) (hi : (P.info? ty).map (·.size) = some cs.length)
    (h : wpList P ops Q rest (a.put op.dst (.agg cs.toArray)) w) : wpList P ops Q (op :: rest) a w := by
  refine wpList_step fun K hK => ?_
  rw [if_pos hw]
  exact wp_load_mid ty x ho b o hx cs d hc hu hd hi (hK _ _ h)
theorem load_fact {W : World} {g o n : Nat} {cs : List Value} (h : W.rangeAt g o cs) (hn : cs.length = n) : (loadCellsFrom ⟨g, o, none⟩ 0 n #[]).run Try.prog W = .ok cs.toArray W := by
  subst hn
  have := run_loadCells_list (P := Try.prog) W ⟨g, o, none⟩ cs (fun j v hv => by rw [Addr.add_mid]; exact h j v hv)
  simpa [loadCells] using this
theorem ba_inj {a b : ByteArray} (h : a.data.toList = b.data.toList) : a = b := by
  cases a; cases b
  exact congrArg ByteArray.mk (Array.ext' h)
theorem str_eq {l m : List Int} (hl : Byt l) (hm : Byt m) : ((strOfNums l).toList == (strOfNums m).toList) = decide (l = m) := by
  by_cases h : l = m
  · subst h; simp
  · rw [decide_eq_false h, beq_eq_false_iff_ne]
    intro e
    rw [ByteArray.toList_eq, ByteArray.toList_eq] at e
    have e2 : strOfNums l = strOfNums m := ba_inj e
    apply h
    rw [← bytes_str hl, ← bytes_str hm, e2]
theorem rqEq_dec (a b : Rq) [Decidable (a = b)] : rqEq a b = decide (a = b) := by
  by_cases h : a = b
  · rw [decide_eq_true h, (rqEq_iff a b).2 h]
  · rw [decide_eq_false h]
    cases hx : rqEq a b with
    | false => rfl
    | true => exact absurd ((rqEq_iff a b).1 hx) h

set_option maxRecDepth 100000 in
set_option maxHeartbeats 8000000 in
theorem apartFF (qa qb : Rq) (ka : qa.ok) (kb : qb.ok) (w : World) (ha : rightB qa.c = false) :
    Calls Try.prog 15 #[.agg #[.int .i64 qa.ses, .int .i64 qa.seq, .int .i64 qa.c.kind, .int .i64 qa.c.o.id, .int .i64 qa.c.o.size, .int .i64 qa.c.o.pick.p, .int .i64 qa.c.o.pick.f, .int .i64 qa.c.o.pick.t, .int .i64 qa.c.o.pick.s, .int .i64 qa.c.o.drop.p, .int .i64 qa.c.o.drop.f, .int .i64 qa.c.o.drop.t, .int .i64 qa.c.o.drop.s, .int .i64 qa.c.d.id, .int .i64 qa.c.d.room, .int .i64 qa.c.d.home, .int .i64 qa.c.d.f, .int .i64 qa.c.d.t, .bool qa.c.d.ret, .int .i64 qa.c.id, .int .i64 qa.c.count], .agg #[.int .i64 qb.ses, .int .i64 qb.seq, .int .i64 qb.c.kind, .int .i64 qb.c.o.id, .int .i64 qb.c.o.size, .int .i64 qb.c.o.pick.p, .int .i64 qb.c.o.pick.f, .int .i64 qb.c.o.pick.t, .int .i64 qb.c.o.pick.s, .int .i64 qb.c.o.drop.p, .int .i64 qb.c.o.drop.f, .int .i64 qb.c.o.drop.t, .int .i64 qb.c.o.drop.s, .int .i64 qb.c.d.id, .int .i64 qb.c.d.room, .int .i64 qb.c.d.home, .int .i64 qb.c.d.f, .int .i64 qb.c.d.t, .bool qb.c.d.ret, .int .i64 qb.c.id, .int .i64 qb.c.count]] w fun e w' => e = .returned (.bool true) ∧ Ext None_ w w' := by
  have HRUNS := Lib.hid runs15_any
  have HA := Lib.hid (rightF qa.c ha)
  clear ha ka kb
  have BA := Lib.hid ((Blk.new w #[.int .i64 qa.ses, .int .i64 qa.seq, .int .i64 qa.c.kind, .int .i64 qa.c.o.id, .int .i64 qa.c.o.size, .int .i64 qa.c.o.pick.p, .int .i64 qa.c.o.pick.f, .int .i64 qa.c.o.pick.t, .int .i64 qa.c.o.pick.s, .int .i64 qa.c.o.drop.p, .int .i64 qa.c.o.drop.f, .int .i64 qa.c.o.drop.t, .int .i64 qa.c.o.drop.s, .int .i64 qa.c.d.id, .int .i64 qa.c.d.room, .int .i64 qa.c.d.home, .int .i64 qa.c.d.f, .int .i64 qa.c.d.t, .bool qa.c.d.ret, .int .i64 qa.c.id, .int .i64 qa.c.count] 70).alloc (.cells #[.int .i64 qb.ses, .int .i64 qb.seq, .int .i64 qb.c.kind, .int .i64 qb.c.o.id, .int .i64 qb.c.o.size, .int .i64 qb.c.o.pick.p, .int .i64 qb.c.o.pick.f, .int .i64 qb.c.o.pick.t, .int .i64 qb.c.o.pick.s, .int .i64 qb.c.o.drop.p, .int .i64 qb.c.o.drop.f, .int .i64 qb.c.o.drop.t, .int .i64 qb.c.o.drop.s, .int .i64 qb.c.d.id, .int .i64 qb.c.d.room, .int .i64 qb.c.d.home, .int .i64 qb.c.d.f, .int .i64 qb.c.d.t, .bool qb.c.d.ret, .int .i64 qb.c.id, .int .i64 qb.c.count] 70))
  have BB := Lib.hid (Blk.new1 w (.cells #[.int .i64 qa.ses, .int .i64 qa.seq, .int .i64 qa.c.kind, .int .i64 qa.c.o.id, .int .i64 qa.c.o.size, .int .i64 qa.c.o.pick.p, .int .i64 qa.c.o.pick.f, .int .i64 qa.c.o.pick.t, .int .i64 qa.c.o.pick.s, .int .i64 qa.c.o.drop.p, .int .i64 qa.c.o.drop.f, .int .i64 qa.c.o.drop.t, .int .i64 qa.c.o.drop.s, .int .i64 qa.c.d.id, .int .i64 qa.c.d.room, .int .i64 qa.c.d.home, .int .i64 qa.c.d.f, .int .i64 qa.c.d.t, .bool qa.c.d.ret, .int .i64 qa.c.id, .int .i64 qa.c.count] 70) #[.int .i64 qb.ses, .int .i64 qb.seq, .int .i64 qb.c.kind, .int .i64 qb.c.o.id, .int .i64 qb.c.o.size, .int .i64 qb.c.o.pick.p, .int .i64 qb.c.o.pick.f, .int .i64 qb.c.o.pick.t, .int .i64 qb.c.o.pick.s, .int .i64 qb.c.o.drop.p, .int .i64 qb.c.o.drop.f, .int .i64 qb.c.o.drop.t, .int .i64 qb.c.o.drop.s, .int .i64 qb.c.d.id, .int .i64 qb.c.d.room, .int .i64 qb.c.d.home, .int .i64 qb.c.d.f, .int .i64 qb.c.d.t, .bool qb.c.d.ret, .int .i64 qb.c.id, .int .i64 qb.c.count] 70)
  go_enter Try.func15, Try.ntmps15
  go_wp2_with (refine wpList_load_mid rfl 68 (.tmp 5) rfl w.heap.size 2 rfl [.int .i64 qa.c.kind, .int .i64 qa.c.o.id, .int .i64 qa.c.o.size, .int .i64 qa.c.o.pick.p, .int .i64 qa.c.o.pick.f, .int .i64 qa.c.o.pick.t, .int .i64 qa.c.o.pick.s, .int .i64 qa.c.o.drop.p, .int .i64 qa.c.o.drop.f, .int .i64 qa.c.o.drop.t, .int .i64 qa.c.o.drop.s, .int .i64 qa.c.d.id, .int .i64 qa.c.d.room, .int .i64 qa.c.d.home, .int .i64 qa.c.d.f, .int .i64 qa.c.d.t, .bool qa.c.d.ret, .int .i64 qa.c.id, .int .i64 qa.c.count] _ (BA.out.range 2 _ rfl) Try.underlying68 rfl cmdSize ?_)
  refine (HA.out _).mono ?_
  rintro e w1 ⟨rfl, x1⟩
  have X1 : Hid (Ext None_ w w1) := Lib.hid (((x0 _ _).alloc _).trans0 x1)
  have BA1 := Lib.hid (BA.out.ext0 x1)
  have BB1 := Lib.hid (BB.out.ext0 x1)
  clear x1 BA BB
  go_wp2_with fail
  refine (HRUNS.out _).mono ?_
  rintro e w9 ⟨rfl, x9⟩
  have X := Lib.hid (X1.out.trans0 x9)
  clear x9
  go_wp2_with fail
  go_ret
  exact ⟨rfl, X.out⟩

set_option maxRecDepth 100000 in
set_option maxHeartbeats 8000000 in
theorem apartTF (qa qb : Rq) (ka : qa.ok) (kb : qb.ok) (w : World) (ha : rightB qa.c = true) (hb : rightB qb.c = false) :
    Calls Try.prog 15 #[.agg #[.int .i64 qa.ses, .int .i64 qa.seq, .int .i64 qa.c.kind, .int .i64 qa.c.o.id, .int .i64 qa.c.o.size, .int .i64 qa.c.o.pick.p, .int .i64 qa.c.o.pick.f, .int .i64 qa.c.o.pick.t, .int .i64 qa.c.o.pick.s, .int .i64 qa.c.o.drop.p, .int .i64 qa.c.o.drop.f, .int .i64 qa.c.o.drop.t, .int .i64 qa.c.o.drop.s, .int .i64 qa.c.d.id, .int .i64 qa.c.d.room, .int .i64 qa.c.d.home, .int .i64 qa.c.d.f, .int .i64 qa.c.d.t, .bool qa.c.d.ret, .int .i64 qa.c.id, .int .i64 qa.c.count], .agg #[.int .i64 qb.ses, .int .i64 qb.seq, .int .i64 qb.c.kind, .int .i64 qb.c.o.id, .int .i64 qb.c.o.size, .int .i64 qb.c.o.pick.p, .int .i64 qb.c.o.pick.f, .int .i64 qb.c.o.pick.t, .int .i64 qb.c.o.pick.s, .int .i64 qb.c.o.drop.p, .int .i64 qb.c.o.drop.f, .int .i64 qb.c.o.drop.t, .int .i64 qb.c.o.drop.s, .int .i64 qb.c.d.id, .int .i64 qb.c.d.room, .int .i64 qb.c.d.home, .int .i64 qb.c.d.f, .int .i64 qb.c.d.t, .bool qb.c.d.ret, .int .i64 qb.c.id, .int .i64 qb.c.count]] w fun e w' => e = .returned (.bool true) ∧ Ext None_ w w' := by
  have HRUNS := Lib.hid runs15_any
  have HA := Lib.hid (rightT qa.c ha)
  have HB := Lib.hid (rightF qb.c hb)
  clear ha hb ka kb
  have BA := Lib.hid ((Blk.new w #[.int .i64 qa.ses, .int .i64 qa.seq, .int .i64 qa.c.kind, .int .i64 qa.c.o.id, .int .i64 qa.c.o.size, .int .i64 qa.c.o.pick.p, .int .i64 qa.c.o.pick.f, .int .i64 qa.c.o.pick.t, .int .i64 qa.c.o.pick.s, .int .i64 qa.c.o.drop.p, .int .i64 qa.c.o.drop.f, .int .i64 qa.c.o.drop.t, .int .i64 qa.c.o.drop.s, .int .i64 qa.c.d.id, .int .i64 qa.c.d.room, .int .i64 qa.c.d.home, .int .i64 qa.c.d.f, .int .i64 qa.c.d.t, .bool qa.c.d.ret, .int .i64 qa.c.id, .int .i64 qa.c.count] 70).alloc (.cells #[.int .i64 qb.ses, .int .i64 qb.seq, .int .i64 qb.c.kind, .int .i64 qb.c.o.id, .int .i64 qb.c.o.size, .int .i64 qb.c.o.pick.p, .int .i64 qb.c.o.pick.f, .int .i64 qb.c.o.pick.t, .int .i64 qb.c.o.pick.s, .int .i64 qb.c.o.drop.p, .int .i64 qb.c.o.drop.f, .int .i64 qb.c.o.drop.t, .int .i64 qb.c.o.drop.s, .int .i64 qb.c.d.id, .int .i64 qb.c.d.room, .int .i64 qb.c.d.home, .int .i64 qb.c.d.f, .int .i64 qb.c.d.t, .bool qb.c.d.ret, .int .i64 qb.c.id, .int .i64 qb.c.count] 70))
  have BB := Lib.hid (Blk.new1 w (.cells #[.int .i64 qa.ses, .int .i64 qa.seq, .int .i64 qa.c.kind, .int .i64 qa.c.o.id, .int .i64 qa.c.o.size, .int .i64 qa.c.o.pick.p, .int .i64 qa.c.o.pick.f, .int .i64 qa.c.o.pick.t, .int .i64 qa.c.o.pick.s, .int .i64 qa.c.o.drop.p, .int .i64 qa.c.o.drop.f, .int .i64 qa.c.o.drop.t, .int .i64 qa.c.o.drop.s, .int .i64 qa.c.d.id, .int .i64 qa.c.d.room, .int .i64 qa.c.d.home, .int .i64 qa.c.d.f, .int .i64 qa.c.d.t, .bool qa.c.d.ret, .int .i64 qa.c.id, .int .i64 qa.c.count] 70) #[.int .i64 qb.ses, .int .i64 qb.seq, .int .i64 qb.c.kind, .int .i64 qb.c.o.id, .int .i64 qb.c.o.size, .int .i64 qb.c.o.pick.p, .int .i64 qb.c.o.pick.f, .int .i64 qb.c.o.pick.t, .int .i64 qb.c.o.pick.s, .int .i64 qb.c.o.drop.p, .int .i64 qb.c.o.drop.f, .int .i64 qb.c.o.drop.t, .int .i64 qb.c.o.drop.s, .int .i64 qb.c.d.id, .int .i64 qb.c.d.room, .int .i64 qb.c.d.home, .int .i64 qb.c.d.f, .int .i64 qb.c.d.t, .bool qb.c.d.ret, .int .i64 qb.c.id, .int .i64 qb.c.count] 70)
  go_enter Try.func15, Try.ntmps15
  go_wp2_with (refine wpList_load_mid rfl 68 (.tmp 5) rfl w.heap.size 2 rfl [.int .i64 qa.c.kind, .int .i64 qa.c.o.id, .int .i64 qa.c.o.size, .int .i64 qa.c.o.pick.p, .int .i64 qa.c.o.pick.f, .int .i64 qa.c.o.pick.t, .int .i64 qa.c.o.pick.s, .int .i64 qa.c.o.drop.p, .int .i64 qa.c.o.drop.f, .int .i64 qa.c.o.drop.t, .int .i64 qa.c.o.drop.s, .int .i64 qa.c.d.id, .int .i64 qa.c.d.room, .int .i64 qa.c.d.home, .int .i64 qa.c.d.f, .int .i64 qa.c.d.t, .bool qa.c.d.ret, .int .i64 qa.c.id, .int .i64 qa.c.count] _ (BA.out.range 2 _ rfl) Try.underlying68 rfl cmdSize ?_)
  refine (HA.out _).mono ?_
  rintro e w1 ⟨rfl, x1⟩
  have X1 : Hid (Ext None_ w w1) := Lib.hid (((x0 _ _).alloc _).trans0 x1)
  have BA1 := Lib.hid (BA.out.ext0 x1)
  have BB1 := Lib.hid (BB.out.ext0 x1)
  clear x1 BA BB
  go_wp2_with (refine wpList_load_mid_g (by rfl) 68 (.tmp 10) rfl (w.heap.size + 1) 2 rfl [.int .i64 qb.c.kind, .int .i64 qb.c.o.id, .int .i64 qb.c.o.size, .int .i64 qb.c.o.pick.p, .int .i64 qb.c.o.pick.f, .int .i64 qb.c.o.pick.t, .int .i64 qb.c.o.pick.s, .int .i64 qb.c.o.drop.p, .int .i64 qb.c.o.drop.f, .int .i64 qb.c.o.drop.t, .int .i64 qb.c.o.drop.s, .int .i64 qb.c.d.id, .int .i64 qb.c.d.room, .int .i64 qb.c.d.home, .int .i64 qb.c.d.f, .int .i64 qb.c.d.t, .bool qb.c.d.ret, .int .i64 qb.c.id, .int .i64 qb.c.count] _ (BB1.out.range 2 _ rfl) Try.underlying68 rfl cmdSize ?_)
  refine (HB.out _).mono ?_
  rintro e w2 ⟨rfl, x2⟩
  have X2 : Hid (Ext None_ w w2) := Lib.hid (X1.out.trans0 x2)
  have BA2 := Lib.hid ((BA1.out.ext0 x2).drew)
  have BB2 := Lib.hid ((BB1.out.ext0 x2).drew)
  clear x2 BA1 BB1
  go_wp2_with fail
  refine (HRUNS.out _).mono ?_
  rintro e w9 ⟨rfl, x9⟩
  have X := Lib.hid (X2.out.trans0 x9)
  clear x9
  go_wp2_with fail
  go_ret
  exact ⟨rfl, X.out⟩

set_option maxRecDepth 100000 in
set_option maxHeartbeats 8000000 in
theorem apartTT (qa qb : Rq) (ka : qa.ok) (kb : qb.ok) (w : World) (ha : rightB qa.c = true) (hb : rightB qb.c = true) :
    Calls Try.prog 15 #[.agg #[.int .i64 qa.ses, .int .i64 qa.seq, .int .i64 qa.c.kind, .int .i64 qa.c.o.id, .int .i64 qa.c.o.size, .int .i64 qa.c.o.pick.p, .int .i64 qa.c.o.pick.f, .int .i64 qa.c.o.pick.t, .int .i64 qa.c.o.pick.s, .int .i64 qa.c.o.drop.p, .int .i64 qa.c.o.drop.f, .int .i64 qa.c.o.drop.t, .int .i64 qa.c.o.drop.s, .int .i64 qa.c.d.id, .int .i64 qa.c.d.room, .int .i64 qa.c.d.home, .int .i64 qa.c.d.f, .int .i64 qa.c.d.t, .bool qa.c.d.ret, .int .i64 qa.c.id, .int .i64 qa.c.count], .agg #[.int .i64 qb.ses, .int .i64 qb.seq, .int .i64 qb.c.kind, .int .i64 qb.c.o.id, .int .i64 qb.c.o.size, .int .i64 qb.c.o.pick.p, .int .i64 qb.c.o.pick.f, .int .i64 qb.c.o.pick.t, .int .i64 qb.c.o.pick.s, .int .i64 qb.c.o.drop.p, .int .i64 qb.c.o.drop.f, .int .i64 qb.c.o.drop.t, .int .i64 qb.c.o.drop.s, .int .i64 qb.c.d.id, .int .i64 qb.c.d.room, .int .i64 qb.c.d.home, .int .i64 qb.c.d.f, .int .i64 qb.c.d.t, .bool qb.c.d.ret, .int .i64 qb.c.id, .int .i64 qb.c.count]] w fun e w' => e = .returned (.bool true) ∧ Ext None_ w w' := by
  have HRUNS := Lib.hid runs15_any
  have HA := Lib.hid (rightT qa.c ha)
  have HB := Lib.hid (rightT qb.c hb)
  have HEA := Lib.hid (encode_any qa · ka)
  have HEB := Lib.hid (encode_any qb · kb)
  obtain ⟨E, hE⟩ : ∃ E, E = ((strOfNums (encR qa)).toList == (strOfNums (encR qb)).toList) := ⟨_, rfl⟩
  have HQ : Hid (rqEq qa qb = E) := Lib.hid (by
    rw [hE, str_eq (byt15 ha ka) (byt15 hb kb)]
    cases hx : rqEq qa qb with
    | true => rw [decide_eq_true ((apart15 ha hb ka kb).2 ((rqEq_iff qa qb).1 hx))]
    | false => rw [decide_eq_false (fun h => by rw [(rqEq_iff qa qb).2 ((apart15 ha hb ka kb).1 h)] at hx; cases hx)])
  have HE := Lib.hid hE
  obtain ⟨SA, hSA⟩ : ∃ S, S = strOfNums (encR qa) := ⟨_, rfl⟩
  obtain ⟨SB, hSB⟩ : ∃ S, S = strOfNums (encR qb) := ⟨_, rfl⟩
  rw [← hSA] at HEA HE
  rw [← hSB] at HEB HE
  clear hSA hSB hE
  unfold Rq.cells at HEA HEB
  clear ha hb ka kb
  have BA := Lib.hid ((Blk.new w #[.int .i64 qa.ses, .int .i64 qa.seq, .int .i64 qa.c.kind, .int .i64 qa.c.o.id, .int .i64 qa.c.o.size, .int .i64 qa.c.o.pick.p, .int .i64 qa.c.o.pick.f, .int .i64 qa.c.o.pick.t, .int .i64 qa.c.o.pick.s, .int .i64 qa.c.o.drop.p, .int .i64 qa.c.o.drop.f, .int .i64 qa.c.o.drop.t, .int .i64 qa.c.o.drop.s, .int .i64 qa.c.d.id, .int .i64 qa.c.d.room, .int .i64 qa.c.d.home, .int .i64 qa.c.d.f, .int .i64 qa.c.d.t, .bool qa.c.d.ret, .int .i64 qa.c.id, .int .i64 qa.c.count] 70).alloc (.cells #[.int .i64 qb.ses, .int .i64 qb.seq, .int .i64 qb.c.kind, .int .i64 qb.c.o.id, .int .i64 qb.c.o.size, .int .i64 qb.c.o.pick.p, .int .i64 qb.c.o.pick.f, .int .i64 qb.c.o.pick.t, .int .i64 qb.c.o.pick.s, .int .i64 qb.c.o.drop.p, .int .i64 qb.c.o.drop.f, .int .i64 qb.c.o.drop.t, .int .i64 qb.c.o.drop.s, .int .i64 qb.c.d.id, .int .i64 qb.c.d.room, .int .i64 qb.c.d.home, .int .i64 qb.c.d.f, .int .i64 qb.c.d.t, .bool qb.c.d.ret, .int .i64 qb.c.id, .int .i64 qb.c.count] 70))
  have BB := Lib.hid (Blk.new1 w (.cells #[.int .i64 qa.ses, .int .i64 qa.seq, .int .i64 qa.c.kind, .int .i64 qa.c.o.id, .int .i64 qa.c.o.size, .int .i64 qa.c.o.pick.p, .int .i64 qa.c.o.pick.f, .int .i64 qa.c.o.pick.t, .int .i64 qa.c.o.pick.s, .int .i64 qa.c.o.drop.p, .int .i64 qa.c.o.drop.f, .int .i64 qa.c.o.drop.t, .int .i64 qa.c.o.drop.s, .int .i64 qa.c.d.id, .int .i64 qa.c.d.room, .int .i64 qa.c.d.home, .int .i64 qa.c.d.f, .int .i64 qa.c.d.t, .bool qa.c.d.ret, .int .i64 qa.c.id, .int .i64 qa.c.count] 70) #[.int .i64 qb.ses, .int .i64 qb.seq, .int .i64 qb.c.kind, .int .i64 qb.c.o.id, .int .i64 qb.c.o.size, .int .i64 qb.c.o.pick.p, .int .i64 qb.c.o.pick.f, .int .i64 qb.c.o.pick.t, .int .i64 qb.c.o.pick.s, .int .i64 qb.c.o.drop.p, .int .i64 qb.c.o.drop.f, .int .i64 qb.c.o.drop.t, .int .i64 qb.c.o.drop.s, .int .i64 qb.c.d.id, .int .i64 qb.c.d.room, .int .i64 qb.c.d.home, .int .i64 qb.c.d.f, .int .i64 qb.c.d.t, .bool qb.c.d.ret, .int .i64 qb.c.id, .int .i64 qb.c.count] 70)
  go_enter Try.func15, Try.ntmps15
  go_wp2_with (refine wpList_load_mid rfl 68 (.tmp 5) rfl w.heap.size 2 rfl [.int .i64 qa.c.kind, .int .i64 qa.c.o.id, .int .i64 qa.c.o.size, .int .i64 qa.c.o.pick.p, .int .i64 qa.c.o.pick.f, .int .i64 qa.c.o.pick.t, .int .i64 qa.c.o.pick.s, .int .i64 qa.c.o.drop.p, .int .i64 qa.c.o.drop.f, .int .i64 qa.c.o.drop.t, .int .i64 qa.c.o.drop.s, .int .i64 qa.c.d.id, .int .i64 qa.c.d.room, .int .i64 qa.c.d.home, .int .i64 qa.c.d.f, .int .i64 qa.c.d.t, .bool qa.c.d.ret, .int .i64 qa.c.id, .int .i64 qa.c.count] _ (BA.out.range 2 _ rfl) Try.underlying68 rfl cmdSize ?_)
  refine (HA.out _).mono ?_
  rintro e w1 ⟨rfl, x1⟩
  have X1 : Hid (Ext None_ w w1) := Lib.hid (((x0 _ _).alloc _).trans0 x1)
  have BA1 := Lib.hid (BA.out.ext0 x1)
  have BB1 := Lib.hid (BB.out.ext0 x1)
  clear x1 BA BB
  go_wp2_with (refine wpList_load_mid_g (by rfl) 68 (.tmp 10) rfl (w.heap.size + 1) 2 rfl [.int .i64 qb.c.kind, .int .i64 qb.c.o.id, .int .i64 qb.c.o.size, .int .i64 qb.c.o.pick.p, .int .i64 qb.c.o.pick.f, .int .i64 qb.c.o.pick.t, .int .i64 qb.c.o.pick.s, .int .i64 qb.c.o.drop.p, .int .i64 qb.c.o.drop.f, .int .i64 qb.c.o.drop.t, .int .i64 qb.c.o.drop.s, .int .i64 qb.c.d.id, .int .i64 qb.c.d.room, .int .i64 qb.c.d.home, .int .i64 qb.c.d.f, .int .i64 qb.c.d.t, .bool qb.c.d.ret, .int .i64 qb.c.id, .int .i64 qb.c.count] _ (BB1.out.range 2 _ rfl) Try.underlying68 rfl cmdSize ?_)
  refine (HB.out _).mono ?_
  rintro e w2 ⟨rfl, x2⟩
  have X2 : Hid (Ext None_ w w2) := Lib.hid (X1.out.trans0 x2)
  have BA2 := Lib.hid ((BA1.out.ext0 x2).drew)
  have BB2 := Lib.hid ((BB1.out.ext0 x2).drew)
  clear x2 BA1 BB1
  go_wp2_with fail
  refine wp_region_mem [sv (.agg #[.int .i64 qa.ses, .int .i64 qa.seq, .int .i64 qa.c.kind, .int .i64 qa.c.o.id, .int .i64 qa.c.o.size, .int .i64 qa.c.o.pick.p, .int .i64 qa.c.o.pick.f, .int .i64 qa.c.o.pick.t, .int .i64 qa.c.o.pick.s, .int .i64 qa.c.o.drop.p, .int .i64 qa.c.o.drop.f, .int .i64 qa.c.o.drop.t, .int .i64 qa.c.o.drop.s, .int .i64 qa.c.d.id, .int .i64 qa.c.d.room, .int .i64 qa.c.d.home, .int .i64 qa.c.d.f, .int .i64 qa.c.d.t, .bool qa.c.d.ret, .int .i64 qa.c.id, .int .i64 qa.c.count]), sv (.string SA), sv (.agg #[.int .i64 qb.ses, .int .i64 qb.seq, .int .i64 qb.c.kind, .int .i64 qb.c.o.id, .int .i64 qb.c.o.size, .int .i64 qb.c.o.pick.p, .int .i64 qb.c.o.pick.f, .int .i64 qb.c.o.pick.t, .int .i64 qb.c.o.pick.s, .int .i64 qb.c.o.drop.p, .int .i64 qb.c.o.drop.f, .int .i64 qb.c.o.drop.t, .int .i64 qb.c.o.drop.s, .int .i64 qb.c.d.id, .int .i64 qb.c.d.room, .int .i64 qb.c.d.home, .int .i64 qb.c.d.f, .int .i64 qb.c.d.t, .bool qb.c.d.ret, .int .i64 qb.c.id, .int .i64 qb.c.count]), sv (.string SB), sv (.bool E), sv (.agg #[.int .i64 qa.ses, .int .i64 qa.seq, .int .i64 qa.c.kind, .int .i64 qa.c.o.id, .int .i64 qa.c.o.size, .int .i64 qa.c.o.pick.p, .int .i64 qa.c.o.pick.f, .int .i64 qa.c.o.pick.t, .int .i64 qa.c.o.pick.s, .int .i64 qa.c.o.drop.p, .int .i64 qa.c.o.drop.f, .int .i64 qa.c.o.drop.t, .int .i64 qa.c.o.drop.s, .int .i64 qa.c.d.id, .int .i64 qa.c.d.room, .int .i64 qa.c.d.home, .int .i64 qa.c.d.f, .int .i64 qa.c.d.t, .bool qa.c.d.ret, .int .i64 qa.c.id, .int .i64 qa.c.count]), sv (.agg #[.int .i64 qb.ses, .int .i64 qb.seq, .int .i64 qb.c.kind, .int .i64 qb.c.o.id, .int .i64 qb.c.o.size, .int .i64 qb.c.o.pick.p, .int .i64 qb.c.o.pick.f, .int .i64 qb.c.o.pick.t, .int .i64 qb.c.o.pick.s, .int .i64 qb.c.o.drop.p, .int .i64 qb.c.o.drop.f, .int .i64 qb.c.o.drop.t, .int .i64 qb.c.o.drop.s, .int .i64 qb.c.d.id, .int .i64 qb.c.d.room, .int .i64 qb.c.d.home, .int .i64 qb.c.d.f, .int .i64 qb.c.d.t, .bool qb.c.d.ret, .int .i64 qb.c.id, .int .i64 qb.c.count]), sv (.bool E), sv (.bool true), sv (.bool true), sv (.bool true), sv (.bool true), sv (.bool true)] (by kernel_rfl) rfl rfl rfl rfl ⟨?_, ?_, ?_, ?_, ?_, ?_, ?_, ?_, ?_, ?_, ?_, ?_, ?_, trivial⟩ ?_
  · intro L a w1 hd hj K hK
    rw [if_pos (wanted_none rfl)]
    have f2 := hj.base 2 rfl rfl
    exact wp_load_row _ _ rfl _ (ev f2) _ _ (0, 0) _ (BA2.out.ext0 hj.ext) Try.underlying70 rfl rqSize (hK _ _ rfl (Ext.refl _ _))
  · intro L a w1 hd hj K hK
    rw [if_pos (wanted_none rfl)]
    have f16 := hj.val 0 16 rfl rfl (by simp) rfl (hd ⟨0, .data⟩ (by simp) rfl)
    exact opCall hK Try.func42 (by kernel_rfl) rfl (args := #[.agg #[.int .i64 qa.ses, .int .i64 qa.seq, .int .i64 qa.c.kind, .int .i64 qa.c.o.id, .int .i64 qa.c.o.size, .int .i64 qa.c.o.pick.p, .int .i64 qa.c.o.pick.f, .int .i64 qa.c.o.pick.t, .int .i64 qa.c.o.pick.s, .int .i64 qa.c.o.drop.p, .int .i64 qa.c.o.drop.f, .int .i64 qa.c.o.drop.t, .int .i64 qa.c.o.drop.s, .int .i64 qa.c.d.id, .int .i64 qa.c.d.room, .int .i64 qa.c.d.home, .int .i64 qa.c.d.f, .int .i64 qa.c.d.t, .bool qa.c.d.ret, .int .i64 qa.c.id, .int .i64 qa.c.count]]) (by simp [ev f16]) (call_of (HEA.out _))
  · intro L a w1 hd hj K hK
    rw [if_pos (wanted_none rfl)]
    have f3 := hj.base 3 rfl rfl
    exact wp_load_row _ _ rfl _ (ev f3) _ _ (0, 0) _ (BB2.out.ext0 hj.ext) Try.underlying70 rfl rqSize (hK _ _ rfl (Ext.refl _ _))
  · intro L a w1 hd hj K hK
    rw [if_pos (wanted_none rfl)]
    have f18 := hj.val 2 18 rfl rfl (by simp) rfl (hd ⟨2, .data⟩ (by simp) rfl)
    exact opCall hK Try.func42 (by kernel_rfl) rfl (args := #[.agg #[.int .i64 qb.ses, .int .i64 qb.seq, .int .i64 qb.c.kind, .int .i64 qb.c.o.id, .int .i64 qb.c.o.size, .int .i64 qb.c.o.pick.p, .int .i64 qb.c.o.pick.f, .int .i64 qb.c.o.pick.t, .int .i64 qb.c.o.pick.s, .int .i64 qb.c.o.drop.p, .int .i64 qb.c.o.drop.f, .int .i64 qb.c.o.drop.t, .int .i64 qb.c.o.drop.s, .int .i64 qb.c.d.id, .int .i64 qb.c.d.room, .int .i64 qb.c.d.home, .int .i64 qb.c.d.f, .int .i64 qb.c.d.t, .bool qb.c.d.ret, .int .i64 qb.c.id, .int .i64 qb.c.count]]) (by simp [ev f18]) (call_of (HEB.out _))
  · intro L a w1 hd hj K hK
    rw [if_pos (wanted_none rfl)]
    have f17 := hj.val 1 17 rfl rfl (by simp) rfl (hd ⟨1, .data⟩ (by simp) rfl)
    have f19 := hj.val 3 19 rfl rfl (by simp) rfl (hd ⟨3, .data⟩ (by simp) rfl)
    exact opBin hK rfl (ev f17) (ev f19) (guardStr _ _ _ _ _ _ _) (binEqStr _ _ _ _) (congrArg Value.bool HE.out.symm)
  · intro L a w1 hd hj K hK
    rw [if_pos (wanted_none rfl)]
    have f2 := hj.base 2 rfl rfl
    exact wp_load_row _ _ rfl _ (ev f2) _ _ (0, 0) _ (BA2.out.ext0 hj.ext) Try.underlying70 rfl rqSize (hK _ _ rfl (Ext.refl _ _))
  · intro L a w1 hd hj K hK
    rw [if_pos (wanted_none rfl)]
    have f3 := hj.base 3 rfl rfl
    exact wp_load_row _ _ rfl _ (ev f3) _ _ (0, 0) _ (BB2.out.ext0 hj.ext) Try.underlying70 rfl rqSize (hK _ _ rfl (Ext.refl _ _))
  · intro L a w1 hd hj K hK
    rw [if_pos (wanted_none rfl)]
    have f21 := hj.val 5 21 rfl rfl (by simp) rfl (hd ⟨5, .data⟩ (by simp) rfl)
    have f22 := hj.val 6 22 rfl rfl (by simp) rfl (hd ⟨6, .data⟩ (by simp) rfl)
    exact opBin hK rfl (ev f21) (ev f22) (run_eqGuard_agg _ _ _ _ _ _ _ (by kernel_rfl)) (eqRqV qa qb E HQ.out _ _ rfl rfl _) rfl
  · intro L a w1 hd hj K hK
    rw [if_pos (wanted_none rfl)]
    have f20 := hj.val 4 20 rfl rfl (by simp) rfl (hd ⟨4, .data⟩ (by simp) rfl)
    have f23 := hj.val 7 23 rfl rfl (by simp) rfl (hd ⟨7, .data⟩ (by simp) rfl)
    exact opBin hK rfl (ev f20) (ev f23) (guardBool _ _ _ _ _ _ _) (binEqBool _ _ _ info4) (congrArg Value.bool (by simp))
  · intro L a w1 hd hj K hK
    rw [if_pos (wanted_none rfl)]
    have f24 := hj.val 8 24 rfl rfl (by simp) rfl (hd ⟨8, .data⟩ (by simp) rfl)
    exact opMove hK rfl (ev f24) rfl
  · intro L a w1 hd hj K hK
    have fg := hj.val 9 25 rfl rfl (by simp) rfl (hd ⟨9, .guard⟩ (by simp) rfl)
    rw [wanted_some (c := true) rfl rfl rfl fg, if_pos (by rfl)]
    exact opCall hK Try.func9 (by kernel_rfl) rfl (args := #[]) (by simp [Act.eval]) (call_of (HRUNS.out _))
  · intro L a w1 hd hj K hK
    rw [if_pos (wanted_none rfl)]
    have f25 := hj.val 9 25 rfl rfl (by simp) rfl (hd ⟨9, .data⟩ (by simp) rfl)
    have f26 := hj.val 10 26 rfl rfl (by simp) rfl (hd ⟨10, .data⟩ (by simp) rfl)
    exact opPick hK rfl (b := true) (ev f25) ((if_pos rfl).trans (ev f26)) rfl
  · intro L a w1 hd hj K hK
    rw [if_pos (wanted_none rfl)]
    have f27 := hj.val 11 27 rfl rfl (by simp) rfl (hd ⟨11, .data⟩ (by simp) rfl)
    exact opAssign hK rfl (ev f27) rfl
  intro vs w9 hx hg
  have v12 : vs 12 = .bool true := hg 12 (by simp)
  have X := Lib.hid (X2.out.drew.trans0 hx)
  clear hx hg
  simp only [putAll, v12, Nat.reduceAdd, Nat.zero_add]
  simp only [Act.put, List.setIfInBounds_toArray, List.set_cons_succ, List.set_cons_zero]
  go_wp2_with fail
  go_ret
  exact ⟨rfl, X.out⟩

theorem commandApart_row (qa : Rq) (ka : qa.ok) (qb : Rq) (kb : qb.ok) {w : World} :
    Calls Try.prog 15 #[.agg #[.int .i64 qa.ses, .int .i64 qa.seq, .int .i64 qa.c.kind, .int .i64 qa.c.o.id, .int .i64 qa.c.o.size, .int .i64 qa.c.o.pick.p, .int .i64 qa.c.o.pick.f, .int .i64 qa.c.o.pick.t, .int .i64 qa.c.o.pick.s, .int .i64 qa.c.o.drop.p, .int .i64 qa.c.o.drop.f, .int .i64 qa.c.o.drop.t, .int .i64 qa.c.o.drop.s, .int .i64 qa.c.d.id, .int .i64 qa.c.d.room, .int .i64 qa.c.d.home, .int .i64 qa.c.d.f, .int .i64 qa.c.d.t, .bool qa.c.d.ret, .int .i64 qa.c.id, .int .i64 qa.c.count], .agg #[.int .i64 qb.ses, .int .i64 qb.seq, .int .i64 qb.c.kind, .int .i64 qb.c.o.id, .int .i64 qb.c.o.size, .int .i64 qb.c.o.pick.p, .int .i64 qb.c.o.pick.f, .int .i64 qb.c.o.pick.t, .int .i64 qb.c.o.pick.s, .int .i64 qb.c.o.drop.p, .int .i64 qb.c.o.drop.f, .int .i64 qb.c.o.drop.t, .int .i64 qb.c.o.drop.s, .int .i64 qb.c.d.id, .int .i64 qb.c.d.room, .int .i64 qb.c.d.home, .int .i64 qb.c.d.f, .int .i64 qb.c.d.t, .bool qb.c.d.ret, .int .i64 qb.c.id, .int .i64 qb.c.count]] w fun e w' => e = .returned (.bool true) ∧ Ext None_ w w' := by
  cases ha : rightB qa.c with
  | false => exact apartFF qa qb ka kb w ha
  | true =>
    cases hb : rightB qb.c with
    | false => exact apartTF qa qb ka kb w ha hb
    | true => exact apartTT qa qb ka kb w ha hb
end Go.Proofs.Ytmobdofkiddfhaa
