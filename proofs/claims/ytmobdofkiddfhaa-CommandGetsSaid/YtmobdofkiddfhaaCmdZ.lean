/- Chapter 15's statements, walked: the closed sentence. Written by gen_runs15.py. -/
import Derived.Test.YtmobdofkiddfhaaCmdL1
import Derived.Test.YtmobdofkiddfhaaCmdD
import Derived.Test.YtmobdofkiddfhaaCmdDr
set_option linter.unusedVariables false
set_option linter.unusedSimpArgs false
namespace Go.Proofs.Ytmobdofkiddfhaa
open Go.RowKit B
theorem bytes_str {l : List Int} (hb : Byt l) : bytesOf (strOfNums l) = l := by
  unfold bytesOf
  rw [strOfNums_data, List.map_map]
  conv => rhs; rw [← List.map_id l]
  refine List.map_congr_left (fun n hn => ?_)
  have := hb n hn
  simp only [Function.comp, id]
  rw [UInt8.toNat_ofNat']
  omega
theorem decLit (l : List Int) (q : Rq) (e : Int) (hb : Byt l) (hl : l.length ≤ 140737488355328) (h : decR l = (q, e)) (w : World) :
    Calls Try.prog 41 #[.string (strOfNums l)] w fun e' w' => e' = .returned (.tuple #[.agg q.cells, .int .i64 e]) ∧ Ext None_ w w' := by
  have := decode_any (strOfNums l) w (by rw [strOfNums_size]; exact hl)
  rw [bytes_str hb, h] at this
  exact this
theorem encLit (q : Rq) (l : List Int) (hq : q.ok) (h : encR q = l) (w : World) :
    Calls Try.prog 42 #[.agg q.cells] w fun e' w' => e' = .returned (.string (strOfNums l)) ∧ Ext None_ w w' := by
  have := encode_any q w hq
  rw [h] at this
  exact this
theorem convNew (w : World) (l : List Int) (cs : Array Value) (hcs : cs.toList = B8 l) (n : Nat) (hn : l.length = n) (g : Nat) (hg : w.heap.size = g) :
    (convert 23 9 (.slice (some ⟨g, 0, none⟩) n n)).run Try.prog (w.alloc (.cells cs 5)) = .ok (.string (strOfNums l)) (w.alloc (.cells cs 5)) := by
  subst hg hn
  refine conv_string (c := l.length) Try.underlying23 Try.underlying5 Try.underlying9 ?_
  rw [← hcs]
  exact (Blk.new w cs _).row
theorem results1_blk {P : Program} {fn : Func} {p : Tmp} {ty : TypeId} (h : fn.results = #[.cell p ty]) (tmps : Array Value) (w : World) (g : Nat) (t' : TypeId) (cs : Array Value) (d : TypeDesc) (hp : tmps.getD p undef = .pointer (some ⟨g, 0, none⟩)) (hg : Blk w g cs t')
    (hu : P.underlying ty = some d) (hd : (match d with | .struct _ | .array _ _ => true | _ => false) = true) (hi : (P.info? ty).map (·.size) = some cs.size) :
    (results fn tmps).run P w = .ok (.agg cs) w := results_cell_row h tmps w g t' cs (0, 0) d hp hg hu hd hi
theorem eqRqV (q r : Rq) (b : Bool) (h : rqEq q r = b) (xs ys : Array Value) (hx : q.cells = xs) (hy : r.cells = ys) (w : World) : (binOp .eql 70 (.agg xs) (.agg ys)).run Try.prog w = .ok (.bool b) w := by
  subst hx hy
  unfold Rq.cells
  rw [run_eql_struct, eqRq q r w, h]
  rfl
theorem i64_1 {n : Int} (h0 : -9223372036854775808 ≤ n) (h1 : n ≤ 9223372036854775807) : I64 n := ⟨h0, h1⟩
instance (n : Int) : Decidable (I64 n) := inferInstanceAs (Decidable (_ ∧ _))
instance (s : Site) : Decidable s.ok := inferInstanceAs (Decidable (_ ∧ _))
instance (s : Ord) : Decidable s.ok := inferInstanceAs (Decidable (_ ∧ _))
instance (s : Drv) : Decidable s.ok := inferInstanceAs (Decidable (_ ∧ _))
instance (s : Cmd) : Decidable s.ok := inferInstanceAs (Decidable (_ ∧ _))
instance (s : Rq) : Decidable s.ok := inferInstanceAs (Decidable (_ ∧ _))
instance (s : Rep) : Decidable s.ok := inferInstanceAs (Decidable (_ ∧ _))

set_option maxRecDepth 100000 in
set_option maxHeartbeats 4000000 in
theorem ask15_any (a b k i c : Int) (w : World) :
    Calls Try.prog 43 #[.int .i64 a, .int .i64 b, .int .i64 k, .int .i64 i, .int .i64 c] w fun e w' => e = .returned (.agg (Rq.cells ⟨a, b, ⟨k, ord0, drv0, i, c⟩⟩)) ∧ Ext None_ w w' := by
  have hb1 : ∀ W : World, (Instr.build 68 #[(0, .int .i64 k), (3, .int .i64 i), (4, .int .i64 c)]).run Try.prog W = .ok (.agg #[.int .i64 k, .int .i64 0, .int .i64 0, .int .i64 0, .int .i64 0, .int .i64 0, .int .i64 0, .int .i64 0, .int .i64 0, .int .i64 0, .int .i64 0, .int .i64 0, .int .i64 0, .int .i64 0, .int .i64 0, .int .i64 0, .bool false, .int .i64 i, .int .i64 c]) W := fun W => run_build W 68 _ _ (by kernel_rfl)
  have hb2 : ∀ W : World, (Instr.build 70 #[(0, .int .i64 a), (1, .int .i64 b), (2, .agg #[.int .i64 k, .int .i64 0, .int .i64 0, .int .i64 0, .int .i64 0, .int .i64 0, .int .i64 0, .int .i64 0, .int .i64 0, .int .i64 0, .int .i64 0, .int .i64 0, .int .i64 0, .int .i64 0, .int .i64 0, .int .i64 0, .bool false, .int .i64 i, .int .i64 c])]).run Try.prog W = .ok (.agg #[.int .i64 a, .int .i64 b, .int .i64 k, .int .i64 0, .int .i64 0, .int .i64 0, .int .i64 0, .int .i64 0, .int .i64 0, .int .i64 0, .int .i64 0, .int .i64 0, .int .i64 0, .int .i64 0, .int .i64 0, .int .i64 0, .int .i64 0, .int .i64 0, .bool false, .int .i64 i, .int .i64 c]) W := fun W => run_build W 70 _ _ (by kernel_rfl)
  go_enter Try.func43, Try.ntmps43
  go_wp2_with (refine wpList_store_new rfl 70 (.tmp 10) (.tmp 17) rfl w.heap.size rfl #[.int .i64 0, .int .i64 0, .int .i64 0, .int .i64 0, .int .i64 0, .int .i64 0, .int .i64 0, .int .i64 0, .int .i64 0, .int .i64 0, .int .i64 0, .int .i64 0, .int .i64 0, .int .i64 0, .int .i64 0, .int .i64 0, .int .i64 0, .int .i64 0, .bool false, .int .i64 0, .int .i64 0] #[.int .i64 a, .int .i64 b, .int .i64 k, .int .i64 0, .int .i64 0, .int .i64 0, .int .i64 0, .int .i64 0, .int .i64 0, .int .i64 0, .int .i64 0, .int .i64 0, .int .i64 0, .int .i64 0, .int .i64 0, .int .i64 0, .int .i64 0, .int .i64 0, .bool false, .int .i64 i, .int .i64 c] rfl rfl 70 rqSize rfl rfl ?_)
  exact bodyPost_ret (v := .agg #[.int .i64 a, .int .i64 b, .int .i64 k, .int .i64 0, .int .i64 0, .int .i64 0, .int .i64 0, .int .i64 0, .int .i64 0, .int .i64 0, .int .i64 0, .int .i64 0, .int .i64 0, .int .i64 0, .int .i64 0, .int .i64 0, .int .i64 0, .int .i64 0, .bool false, .int .i64 i, .int .i64 c]) (results1_blk rfl _ _ w.heap.size 70 _ _ rfl (Blk.new _ _ _) Try.underlying70 rfl rqSize) rfl ⟨rfl, x0 _ _⟩

set_option maxRecDepth 100000 in
set_option maxHeartbeats 8000000 in
theorem runs15_any : Runs15 := by
  intro w
  go_enter Try.func9, Try.ntmps9
  have cv1 := convNew w [6, 2, 16] #[.int .u8 6, .int .u8 2, .int .u8 16] rfl 3 rfl (w.heap.size) (by simp)
  go_wp2_with fail
  refine (decLit [6, 2, 16] rq0 4 (by decide) (by decide) (by kernel_rfl) _).mono ?_
  rintro e w1 ⟨rfl, x1⟩
  have X1 : Hid (Ext None_ w w1) := Lib.hid (((Ext.refl None_ w).alloc _).trans0 x1)
  clear x1 cv1
  have cv2 := convNew (w1.alloc (.cells #[.int .i64 0, .int .i64 0, .int .i64 0, .int .i64 0, .int .i64 0, .int .i64 0, .int .i64 0, .int .i64 0, .int .i64 0, .int .i64 0, .int .i64 0, .int .i64 0, .int .i64 0, .int .i64 0, .int .i64 0, .int .i64 0, .int .i64 0, .int .i64 0, .bool false, .int .i64 0, .int .i64 0] 70)) [6, 2, 14] #[.int .u8 6, .int .u8 2, .int .u8 14] rfl 3 rfl (w1.heap.size + 1) (by simp)
  go_wp2_with (refine wpList_store_new rfl 70 (.tmp 1) (.tmp 14) rfl w1.heap.size rfl #[.int .i64 0, .int .i64 0, .int .i64 0, .int .i64 0, .int .i64 0, .int .i64 0, .int .i64 0, .int .i64 0, .int .i64 0, .int .i64 0, .int .i64 0, .int .i64 0, .int .i64 0, .int .i64 0, .int .i64 0, .int .i64 0, .int .i64 0, .int .i64 0, .bool false, .int .i64 0, .int .i64 0] #[.int .i64 0, .int .i64 0, .int .i64 0, .int .i64 0, .int .i64 0, .int .i64 0, .int .i64 0, .int .i64 0, .int .i64 0, .int .i64 0, .int .i64 0, .int .i64 0, .int .i64 0, .int .i64 0, .int .i64 0, .int .i64 0, .int .i64 0, .int .i64 0, .bool false, .int .i64 0, .int .i64 0] rfl rfl 70 rqSize rfl rfl ?_)
  refine (decLit [6, 2, 14] rq0 3 (by decide) (by decide) (by kernel_rfl) _).mono ?_
  rintro e w2 ⟨rfl, x2⟩
  have X2 : Hid (Ext None_ w w2) := Lib.hid (((X1.out.alloc (.cells #[.int .i64 0, .int .i64 0, .int .i64 0, .int .i64 0, .int .i64 0, .int .i64 0, .int .i64 0, .int .i64 0, .int .i64 0, .int .i64 0, .int .i64 0, .int .i64 0, .int .i64 0, .int .i64 0, .int .i64 0, .int .i64 0, .int .i64 0, .int .i64 0, .bool false, .int .i64 0, .int .i64 0] 70)).alloc _).trans0 x2)
  clear x2 cv2
  have cv3 := convNew (w2.alloc (.cells #[.int .i64 0, .int .i64 0, .int .i64 0, .int .i64 0, .int .i64 0, .int .i64 0, .int .i64 0, .int .i64 0, .int .i64 0, .int .i64 0, .int .i64 0, .int .i64 0, .int .i64 0, .int .i64 0, .int .i64 0, .int .i64 0, .int .i64 0, .int .i64 0, .bool false, .int .i64 0, .int .i64 0] 70)) [6, 2, 14, 10, 0] #[.int .u8 6, .int .u8 2, .int .u8 14, .int .u8 10, .int .u8 0] rfl 5 rfl (w2.heap.size + 1) (by simp)
  go_wp2_with (refine wpList_store_new rfl 70 (.tmp 3) (.tmp 20) rfl w2.heap.size rfl #[.int .i64 0, .int .i64 0, .int .i64 0, .int .i64 0, .int .i64 0, .int .i64 0, .int .i64 0, .int .i64 0, .int .i64 0, .int .i64 0, .int .i64 0, .int .i64 0, .int .i64 0, .int .i64 0, .int .i64 0, .int .i64 0, .int .i64 0, .int .i64 0, .bool false, .int .i64 0, .int .i64 0] #[.int .i64 0, .int .i64 0, .int .i64 0, .int .i64 0, .int .i64 0, .int .i64 0, .int .i64 0, .int .i64 0, .int .i64 0, .int .i64 0, .int .i64 0, .int .i64 0, .int .i64 0, .int .i64 0, .int .i64 0, .int .i64 0, .int .i64 0, .int .i64 0, .bool false, .int .i64 0, .int .i64 0] rfl rfl 70 rqSize rfl rfl ?_)
  refine (decLit [6, 2, 14, 10, 0] rq0 5 (by decide) (by decide) (by kernel_rfl) _).mono ?_
  rintro e w3 ⟨rfl, x3⟩
  have X3 : Hid (Ext None_ w w3) := Lib.hid (((X2.out.alloc (.cells #[.int .i64 0, .int .i64 0, .int .i64 0, .int .i64 0, .int .i64 0, .int .i64 0, .int .i64 0, .int .i64 0, .int .i64 0, .int .i64 0, .int .i64 0, .int .i64 0, .int .i64 0, .int .i64 0, .int .i64 0, .int .i64 0, .int .i64 0, .int .i64 0, .bool false, .int .i64 0, .int .i64 0] 70)).alloc _).trans0 x3)
  clear x3 cv3
  have cv4 := convNew (w3.alloc (.cells #[.int .i64 0, .int .i64 0, .int .i64 0, .int .i64 0, .int .i64 0, .int .i64 0, .int .i64 0, .int .i64 0, .int .i64 0, .int .i64 0, .int .i64 0, .int .i64 0, .int .i64 0, .int .i64 0, .int .i64 0, .int .i64 0, .int .i64 0, .int .i64 0, .bool false, .int .i64 0, .int .i64 0] 70)) [6, 2, 10, 8, 4] #[.int .u8 6, .int .u8 2, .int .u8 10, .int .u8 8, .int .u8 4] rfl 5 rfl (w3.heap.size + 1) (by simp)
  go_wp2_with (refine wpList_store_new rfl 70 (.tmp 5) (.tmp 26) rfl w3.heap.size rfl #[.int .i64 0, .int .i64 0, .int .i64 0, .int .i64 0, .int .i64 0, .int .i64 0, .int .i64 0, .int .i64 0, .int .i64 0, .int .i64 0, .int .i64 0, .int .i64 0, .int .i64 0, .int .i64 0, .int .i64 0, .int .i64 0, .int .i64 0, .int .i64 0, .bool false, .int .i64 0, .int .i64 0] #[.int .i64 0, .int .i64 0, .int .i64 0, .int .i64 0, .int .i64 0, .int .i64 0, .int .i64 0, .int .i64 0, .int .i64 0, .int .i64 0, .int .i64 0, .int .i64 0, .int .i64 0, .int .i64 0, .int .i64 0, .int .i64 0, .int .i64 0, .int .i64 0, .bool false, .int .i64 0, .int .i64 0] rfl rfl 70 rqSize rfl rfl ?_)
  refine (decLit [6, 2, 10, 8, 4] (⟨3, 1, ⟨5, ord0, drv0, 4, 2⟩⟩ : Rq) 0 (by decide) (by decide) (by kernel_rfl) _).mono ?_
  rintro e w4 ⟨rfl, x4⟩
  have X4 : Hid (Ext None_ w w4) := Lib.hid (((X3.out.alloc (.cells #[.int .i64 0, .int .i64 0, .int .i64 0, .int .i64 0, .int .i64 0, .int .i64 0, .int .i64 0, .int .i64 0, .int .i64 0, .int .i64 0, .int .i64 0, .int .i64 0, .int .i64 0, .int .i64 0, .int .i64 0, .int .i64 0, .int .i64 0, .int .i64 0, .bool false, .int .i64 0, .int .i64 0] 70)).alloc _).trans0 x4)
  clear x4 cv4
  go_wp2_with (refine wpList_store_new rfl 70 (.tmp 7) (.tmp 32) rfl w4.heap.size rfl #[.int .i64 0, .int .i64 0, .int .i64 0, .int .i64 0, .int .i64 0, .int .i64 0, .int .i64 0, .int .i64 0, .int .i64 0, .int .i64 0, .int .i64 0, .int .i64 0, .int .i64 0, .int .i64 0, .int .i64 0, .int .i64 0, .int .i64 0, .int .i64 0, .bool false, .int .i64 0, .int .i64 0] #[.int .i64 3, .int .i64 1, .int .i64 5, .int .i64 0, .int .i64 0, .int .i64 0, .int .i64 0, .int .i64 0, .int .i64 0, .int .i64 0, .int .i64 0, .int .i64 0, .int .i64 0, .int .i64 0, .int .i64 0, .int .i64 0, .int .i64 0, .int .i64 0, .bool false, .int .i64 4, .int .i64 2] rfl rfl 70 rqSize rfl rfl ?_)
  have HB := Lib.hid ((Blk.new w4 #[.int .i64 3, .int .i64 1, .int .i64 5, .int .i64 0, .int .i64 0, .int .i64 0, .int .i64 0, .int .i64 0, .int .i64 0, .int .i64 0, .int .i64 0, .int .i64 0, .int .i64 0, .int .i64 0, .int .i64 0, .int .i64 0, .int .i64 0, .int .i64 0, .bool false, .int .i64 4, .int .i64 2] 70).drew)
  have X5 : Hid (Ext None_ w _) := Lib.hid (X4.out.alloc (.cells #[.int .i64 3, .int .i64 1, .int .i64 5, .int .i64 0, .int .i64 0, .int .i64 0, .int .i64 0, .int .i64 0, .int .i64 0, .int .i64 0, .int .i64 0, .int .i64 0, .int .i64 0, .int .i64 0, .int .i64 0, .int .i64 0, .int .i64 0, .int .i64 0, .bool false, .int .i64 4, .int .i64 2] 70)).drew
  have hsz4 : (w4.alloc (.cells #[.int .i64 3, .int .i64 1, .int .i64 5, .int .i64 0, .int .i64 0, .int .i64 0, .int .i64 0, .int .i64 0, .int .i64 0, .int .i64 0, .int .i64 0, .int .i64 0, .int .i64 0, .int .i64 0, .int .i64 0, .int .i64 0, .int .i64 0, .int .i64 0, .bool false, .int .i64 4, .int .i64 2] 70)).drew.heap.size = w4.heap.size + 1 := by simp
  refine wp_region_mem [sv (.agg #[.int .i64 3, .int .i64 1, .int .i64 7, .int .i64 0, .int .i64 0, .int .i64 0, .int .i64 0, .int .i64 0, .int .i64 0, .int .i64 0, .int .i64 0, .int .i64 0, .int .i64 0, .int .i64 0, .int .i64 0, .int .i64 0, .int .i64 0, .int .i64 0, .bool false, .int .i64 5, .int .i64 0]), sv (.string (strOfNums [6, 2, 14, 10])), sRow 4 4 (B8 [6, 2, 14, 10]), sv (.string (strOfNums [6, 2, 14, 10])), sv (.bool true), sv (.bool true), sv (.agg #[.int .i64 3, .int .i64 1, .int .i64 7, .int .i64 0, .int .i64 0, .int .i64 0, .int .i64 0, .int .i64 0, .int .i64 0, .int .i64 0, .int .i64 0, .int .i64 0, .int .i64 0, .int .i64 0, .int .i64 0, .int .i64 0, .int .i64 0, .int .i64 0, .bool false, .int .i64 5, .int .i64 1]), sv (.string (strOfNums [])), sv (.bool true), sv (.bool true), sv (.bool true), sv (.agg #[.int .i64 3, .int .i64 1, .int .i64 5, .int .i64 0, .int .i64 0, .int .i64 0, .int .i64 0, .int .i64 0, .int .i64 0, .int .i64 0, .int .i64 0, .int .i64 0, .int .i64 0, .int .i64 0, .int .i64 0, .int .i64 0, .int .i64 0, .int .i64 0, .bool false, .int .i64 4, .int .i64 2]), sv (.string (strOfNums [6, 2, 10, 8, 4])), sRow 5 5 (B8 [6, 2, 10, 8, 4]), sv (.string (strOfNums [6, 2, 10, 8, 4])), sv (.bool true), sv (.bool true), sv (.bool true)] (by kernel_rfl) rfl rfl rfl rfl ⟨?_, ?_, ?_, ?_, ?_, ?_, ?_, ?_, ?_, ?_, ?_, ?_, ?_, ?_, ?_, ?_, ?_, ?_, trivial⟩ ?_
  · intro L a w1 hd hj K hK
    rw [if_pos (wanted_none rfl)]
    exact opCall hK Try.func43 (by kernel_rfl) rfl (args := #[.int .i64 3, .int .i64 1, .int .i64 7, .int .i64 5, .int .i64 0]) (by simp [Act.eval]) (call_of (ask15_any 3 1 7 5 0 _))
  · intro L a w1 hd hj K hK
    rw [if_pos (wanted_none rfl)]
    have f34 := hj.val 0 34 rfl rfl (by simp) rfl (hd ⟨0, .data⟩ (by simp) rfl)
    exact opCall hK Try.func42 (by kernel_rfl) rfl (args := #[.agg #[.int .i64 3, .int .i64 1, .int .i64 7, .int .i64 0, .int .i64 0, .int .i64 0, .int .i64 0, .int .i64 0, .int .i64 0, .int .i64 0, .int .i64 0, .int .i64 0, .int .i64 0, .int .i64 0, .int .i64 0, .int .i64 0, .int .i64 0, .int .i64 0, .bool false, .int .i64 5, .int .i64 0]]) (by simp [ev f34]) (call_of (encLit (⟨3, 1, ⟨7, ord0, drv0, 5, 0⟩⟩ : Rq) [6, 2, 14, 10] (by decide) (by kernel_rfl) _))
  · intro L a w1 hd hj K hK
    rw [if_pos (wanted_none rfl)]
    exact opSlice hK rfl (cs := #[.int .u8 6, .int .u8 2, .int .u8 14, .int .u8 10]) (e := 5) rfl (fun W => by kernel_rfl) ⟨_, rfl, (Blk.new w1 #[.int .u8 6, .int .u8 2, .int .u8 14, .int .u8 10] _).row⟩
  · intro L a w1 hd hj K hK
    rw [if_pos (wanted_none rfl)]
    obtain ⟨u36, f36, g36⟩ := hj.at_ 2 36 rfl rfl (by simp) (hd ⟨2, .data⟩ (by simp) rfl)
    obtain ⟨A, rfl, R⟩ := g36
    exact opConv hK rfl (ev f36) (conv_string (l := [6, 2, 14, 10]) (c := 4) Try.underlying23 Try.underlying5 Try.underlying9 R) rfl (Ext.refl _ _)
  · intro L a w1 hd hj K hK
    rw [if_pos (wanted_none rfl)]
    have f35 := hj.val 1 35 rfl rfl (by simp) rfl (hd ⟨1, .data⟩ (by simp) rfl)
    have f37 := hj.val 3 37 rfl rfl (by simp) rfl (hd ⟨3, .data⟩ (by simp) rfl)
    exact opBin hK rfl (ev f35) (ev f37) (guardStr _ _ _ _ _ _ _) (binEqStr _ _ _ _) (congrArg Value.bool (by simp))
  · intro L a w1 hd hj K hK
    rw [if_pos (wanted_none rfl)]
    have f38 := hj.val 4 38 rfl rfl (by simp) rfl (hd ⟨4, .data⟩ (by simp) rfl)
    exact opMove hK rfl (ev f38) rfl
  · intro L a w1 hd hj K hK
    have fg := hj.val 5 39 rfl rfl (by simp) rfl (hd ⟨5, .guard⟩ (by simp) rfl)
    rw [wanted_some (c := true) rfl rfl rfl fg, if_pos (by rfl)]
    exact opCall hK Try.func43 (by kernel_rfl) rfl (args := #[.int .i64 3, .int .i64 1, .int .i64 7, .int .i64 5, .int .i64 1]) (by simp [Act.eval]) (call_of (ask15_any 3 1 7 5 1 _))
  · intro L a w1 hd hj K hK
    have fg := hj.val 5 39 rfl rfl (by simp) rfl (hd ⟨5, .guard⟩ (by simp) rfl)
    rw [wanted_some (c := true) rfl rfl rfl fg, if_pos (by rfl)]
    have f40 := hj.val 6 40 rfl rfl (by simp) rfl (hd ⟨6, .data⟩ (by simp) rfl)
    exact opCall hK Try.func42 (by kernel_rfl) rfl (args := #[.agg #[.int .i64 3, .int .i64 1, .int .i64 7, .int .i64 0, .int .i64 0, .int .i64 0, .int .i64 0, .int .i64 0, .int .i64 0, .int .i64 0, .int .i64 0, .int .i64 0, .int .i64 0, .int .i64 0, .int .i64 0, .int .i64 0, .int .i64 0, .int .i64 0, .bool false, .int .i64 5, .int .i64 1]]) (by simp [ev f40]) (call_of (encLit (⟨3, 1, ⟨7, ord0, drv0, 5, 1⟩⟩ : Rq) [] (by decide) (by kernel_rfl) _))
  · intro L a w1 hd hj K hK
    have fg := hj.val 5 39 rfl rfl (by simp) rfl (hd ⟨5, .guard⟩ (by simp) rfl)
    rw [wanted_some (c := true) rfl rfl rfl fg, if_pos (by rfl)]
    have f41 := hj.val 7 41 rfl rfl (by simp) rfl (hd ⟨7, .data⟩ (by simp) rfl)
    exact opBin hK rfl (ev f41) rfl (guardStr _ _ _ _ _ _ _) (binEqStr _ _ _ _) (congrArg Value.bool (by show ((⟨#[]⟩ : ByteArray).toList == (⟨#[]⟩ : ByteArray).toList) = true; simp))
  · intro L a w1 hd hj K hK
    rw [if_pos (wanted_none rfl)]
    have f39 := hj.val 5 39 rfl rfl (by simp) rfl (hd ⟨5, .data⟩ (by simp) rfl)
    have f42 := hj.val 8 42 rfl rfl (by simp) rfl (hd ⟨8, .data⟩ (by simp) rfl)
    exact opPick hK rfl (b := true) (ev f39) ((if_pos rfl).trans (ev f42)) rfl
  · intro L a w1 hd hj K hK
    rw [if_pos (wanted_none rfl)]
    have f43 := hj.val 9 43 rfl rfl (by simp) rfl (hd ⟨9, .data⟩ (by simp) rfl)
    exact opMove hK rfl (ev f43) rfl
  · intro L a w1 hd hj K hK
    have fg := hj.val 10 44 rfl rfl (by simp) rfl (hd ⟨10, .guard⟩ (by simp) rfl)
    rw [wanted_some (c := true) rfl rfl rfl fg, if_pos (by rfl)]
    exact opCall hK Try.func43 (by kernel_rfl) rfl (args := #[.int .i64 3, .int .i64 1, .int .i64 5, .int .i64 4, .int .i64 2]) (by simp [Act.eval]) (call_of (ask15_any 3 1 5 4 2 _))
  · intro L a w1 hd hj K hK
    have fg := hj.val 10 44 rfl rfl (by simp) rfl (hd ⟨10, .guard⟩ (by simp) rfl)
    rw [wanted_some (c := true) rfl rfl rfl fg, if_pos (by rfl)]
    have f45 := hj.val 11 45 rfl rfl (by simp) rfl (hd ⟨11, .data⟩ (by simp) rfl)
    exact opCall hK Try.func42 (by kernel_rfl) rfl (args := #[.agg #[.int .i64 3, .int .i64 1, .int .i64 5, .int .i64 0, .int .i64 0, .int .i64 0, .int .i64 0, .int .i64 0, .int .i64 0, .int .i64 0, .int .i64 0, .int .i64 0, .int .i64 0, .int .i64 0, .int .i64 0, .int .i64 0, .int .i64 0, .int .i64 0, .bool false, .int .i64 4, .int .i64 2]]) (by simp [ev f45]) (call_of (encLit (⟨3, 1, ⟨5, ord0, drv0, 4, 2⟩⟩ : Rq) [6, 2, 10, 8, 4] (by decide) (by kernel_rfl) _))
  · intro L a w1 hd hj K hK
    have fg := hj.val 10 44 rfl rfl (by simp) rfl (hd ⟨10, .guard⟩ (by simp) rfl)
    rw [wanted_some (c := true) rfl rfl rfl fg, if_pos (by rfl)]
    exact opSlice hK rfl (cs := #[.int .u8 6, .int .u8 2, .int .u8 10, .int .u8 8, .int .u8 4]) (e := 5) rfl (fun W => by kernel_rfl) ⟨_, rfl, (Blk.new w1 #[.int .u8 6, .int .u8 2, .int .u8 10, .int .u8 8, .int .u8 4] _).row⟩
  · intro L a w1 hd hj K hK
    have fg := hj.val 10 44 rfl rfl (by simp) rfl (hd ⟨10, .guard⟩ (by simp) rfl)
    rw [wanted_some (c := true) rfl rfl rfl fg, if_pos (by rfl)]
    obtain ⟨u47, f47, g47⟩ := hj.at_ 13 47 rfl rfl (by simp) (hd ⟨13, .data⟩ (by simp) rfl)
    obtain ⟨A, rfl, R⟩ := g47
    exact opConv hK rfl (ev f47) (conv_string (l := [6, 2, 10, 8, 4]) (c := 5) Try.underlying23 Try.underlying5 Try.underlying9 R) rfl (Ext.refl _ _)
  · intro L a w1 hd hj K hK
    have fg := hj.val 10 44 rfl rfl (by simp) rfl (hd ⟨10, .guard⟩ (by simp) rfl)
    rw [wanted_some (c := true) rfl rfl rfl fg, if_pos (by rfl)]
    have f46 := hj.val 12 46 rfl rfl (by simp) rfl (hd ⟨12, .data⟩ (by simp) rfl)
    have f48 := hj.val 14 48 rfl rfl (by simp) rfl (hd ⟨14, .data⟩ (by simp) rfl)
    exact opBin hK rfl (ev f46) (ev f48) (guardStr _ _ _ _ _ _ _) (binEqStr _ _ _ _) (congrArg Value.bool (by simp))
  · intro L a w1 hd hj K hK
    rw [if_pos (wanted_none rfl)]
    have f44 := hj.val 10 44 rfl rfl (by simp) rfl (hd ⟨10, .data⟩ (by simp) rfl)
    have f49 := hj.val 15 49 rfl rfl (by simp) rfl (hd ⟨15, .data⟩ (by simp) rfl)
    exact opPick hK rfl (b := true) (ev f44) ((if_pos rfl).trans (ev f49)) rfl
  · intro L a w1 hd hj K hK
    rw [if_pos (wanted_none rfl)]
    have f50 := hj.val 16 50 rfl rfl (by simp) rfl (hd ⟨16, .data⟩ (by simp) rfl)
    exact opAssign hK rfl (ev f50) rfl
  intro vs w5 hx hg
  have v17 : vs 17 = .bool true := hg 17 (by simp)
  have X6 : Hid (Ext None_ w w5) := Lib.hid (X5.out.trans0 hx)
  have HB5 := Lib.hid ((HB.out.ext0 hx).drew)
  clear hx hg
  simp only [putAll, v17, Nat.reduceAdd, Nat.zero_add]
  simp only [Act.put, List.setIfInBounds_toArray, List.set_cons_succ, List.set_cons_zero]
  go_wp2_with fail
  refine wp_region_mem [sv (.bool true), sv (.bool true), sv (.int .i64 4), sv (.bool true), sv (.bool true), sv (.bool true), sv (.int .i64 3), sv (.bool true), sv (.bool true), sv (.bool true), sv (.int .i64 5), sv (.bool true), sv (.bool true), sv (.bool true), sv (.int .i64 0), sv (.bool true), sv (.bool true), sv (.bool true), sv (.agg #[.int .i64 3, .int .i64 1, .int .i64 5, .int .i64 0, .int .i64 0, .int .i64 0, .int .i64 0, .int .i64 0, .int .i64 0, .int .i64 0, .int .i64 0, .int .i64 0, .int .i64 0, .int .i64 0, .int .i64 0, .int .i64 0, .int .i64 0, .int .i64 0, .bool false, .int .i64 4, .int .i64 2]), sv (.agg #[.int .i64 3, .int .i64 1, .int .i64 5, .int .i64 0, .int .i64 0, .int .i64 0, .int .i64 0, .int .i64 0, .int .i64 0, .int .i64 0, .int .i64 0, .int .i64 0, .int .i64 0, .int .i64 0, .int .i64 0, .int .i64 0, .int .i64 0, .int .i64 0, .bool false, .int .i64 4, .int .i64 2]), sv (.bool true), sv (.bool true), sv (.bool true), sRow 1 1 (B8 [7]), sv (.agg #[.int .i64 8, .int .i64 0, .int .i64 0, .int .i64 0]), sOwn (fun u w => ∃ A c, u = .slice A 5 c ∧ Row w A (B8 [7, 16, 0, 0, 0])) (fun _ _ _ ⟨A, c, h1, h2⟩ hx => ⟨A, c, h1, h2.ext0 hx⟩), sRow 5 5 (B8 [7, 16, 0, 0, 0]), sv (.bool true), sv (.bool true), sv (.bool true)] (by kernel_rfl) rfl rfl rfl rfl ⟨?_, ?_, ?_, ?_, ?_, ?_, ?_, ?_, ?_, ?_, ?_, ?_, ?_, ?_, ?_, ?_, ?_, ?_, ?_, ?_, ?_, ?_, ?_, ?_, ?_, ?_, ?_, ?_, ?_, ?_, trivial⟩ ?_
  · intro L a w1 hd hj K hK
    rw [if_pos (wanted_none rfl)]
    have f9 := hj.base 9 rfl rfl
    exact opMove hK rfl (ev f9) rfl
  · intro L a w1 hd hj K hK
    rw [if_pos (wanted_none rfl)]
    have f51 := hj.val 0 51 rfl rfl (by simp) rfl (hd ⟨0, .data⟩ (by simp) rfl)
    exact opMove hK rfl (ev f51) rfl
  · intro L a w1 hd hj K hK
    have fg := hj.val 1 52 rfl rfl (by simp) rfl (hd ⟨1, .guard⟩ (by simp) rfl)
    rw [wanted_some (c := true) rfl rfl rfl fg, if_pos (by rfl)]
    have f2 := hj.base 2 rfl rfl
    exact opMove hK rfl (ev f2) rfl
  · intro L a w1 hd hj K hK
    have fg := hj.val 1 52 rfl rfl (by simp) rfl (hd ⟨1, .guard⟩ (by simp) rfl)
    rw [wanted_some (c := true) rfl rfl rfl fg, if_pos (by rfl)]
    have f53 := hj.val 2 53 rfl rfl (by simp) rfl (hd ⟨2, .data⟩ (by simp) rfl)
    exact opBin hK rfl (ev f53) rfl (guardInt _ _ _ _ _ _ _ _ _) (binEqInt _ _ _ _ _) (congrArg Value.bool (by rfl))
  · intro L a w1 hd hj K hK
    rw [if_pos (wanted_none rfl)]
    have f52 := hj.val 1 52 rfl rfl (by simp) rfl (hd ⟨1, .data⟩ (by simp) rfl)
    have f54 := hj.val 3 54 rfl rfl (by simp) rfl (hd ⟨3, .data⟩ (by simp) rfl)
    exact opPick hK rfl (b := true) (ev f52) ((if_pos rfl).trans (ev f54)) rfl
  · intro L a w1 hd hj K hK
    rw [if_pos (wanted_none rfl)]
    have f55 := hj.val 4 55 rfl rfl (by simp) rfl (hd ⟨4, .data⟩ (by simp) rfl)
    exact opMove hK rfl (ev f55) rfl
  · intro L a w1 hd hj K hK
    have fg := hj.val 5 56 rfl rfl (by simp) rfl (hd ⟨5, .guard⟩ (by simp) rfl)
    rw [wanted_some (c := true) rfl rfl rfl fg, if_pos (by rfl)]
    have f4 := hj.base 4 rfl rfl
    exact opMove hK rfl (ev f4) rfl
  · intro L a w1 hd hj K hK
    have fg := hj.val 5 56 rfl rfl (by simp) rfl (hd ⟨5, .guard⟩ (by simp) rfl)
    rw [wanted_some (c := true) rfl rfl rfl fg, if_pos (by rfl)]
    have f57 := hj.val 6 57 rfl rfl (by simp) rfl (hd ⟨6, .data⟩ (by simp) rfl)
    exact opBin hK rfl (ev f57) rfl (guardInt _ _ _ _ _ _ _ _ _) (binEqInt _ _ _ _ _) (congrArg Value.bool (by rfl))
  · intro L a w1 hd hj K hK
    rw [if_pos (wanted_none rfl)]
    have f56 := hj.val 5 56 rfl rfl (by simp) rfl (hd ⟨5, .data⟩ (by simp) rfl)
    have f58 := hj.val 7 58 rfl rfl (by simp) rfl (hd ⟨7, .data⟩ (by simp) rfl)
    exact opPick hK rfl (b := true) (ev f56) ((if_pos rfl).trans (ev f58)) rfl
  · intro L a w1 hd hj K hK
    rw [if_pos (wanted_none rfl)]
    have f59 := hj.val 8 59 rfl rfl (by simp) rfl (hd ⟨8, .data⟩ (by simp) rfl)
    exact opMove hK rfl (ev f59) rfl
  · intro L a w1 hd hj K hK
    have fg := hj.val 9 60 rfl rfl (by simp) rfl (hd ⟨9, .guard⟩ (by simp) rfl)
    rw [wanted_some (c := true) rfl rfl rfl fg, if_pos (by rfl)]
    have f6 := hj.base 6 rfl rfl
    exact opMove hK rfl (ev f6) rfl
  · intro L a w1 hd hj K hK
    have fg := hj.val 9 60 rfl rfl (by simp) rfl (hd ⟨9, .guard⟩ (by simp) rfl)
    rw [wanted_some (c := true) rfl rfl rfl fg, if_pos (by rfl)]
    have f61 := hj.val 10 61 rfl rfl (by simp) rfl (hd ⟨10, .data⟩ (by simp) rfl)
    exact opBin hK rfl (ev f61) rfl (guardInt _ _ _ _ _ _ _ _ _) (binEqInt _ _ _ _ _) (congrArg Value.bool (by rfl))
  · intro L a w1 hd hj K hK
    rw [if_pos (wanted_none rfl)]
    have f60 := hj.val 9 60 rfl rfl (by simp) rfl (hd ⟨9, .data⟩ (by simp) rfl)
    have f62 := hj.val 11 62 rfl rfl (by simp) rfl (hd ⟨11, .data⟩ (by simp) rfl)
    exact opPick hK rfl (b := true) (ev f60) ((if_pos rfl).trans (ev f62)) rfl
  · intro L a w1 hd hj K hK
    rw [if_pos (wanted_none rfl)]
    have f63 := hj.val 12 63 rfl rfl (by simp) rfl (hd ⟨12, .data⟩ (by simp) rfl)
    exact opMove hK rfl (ev f63) rfl
  · intro L a w1 hd hj K hK
    have fg := hj.val 13 64 rfl rfl (by simp) rfl (hd ⟨13, .guard⟩ (by simp) rfl)
    rw [wanted_some (c := true) rfl rfl rfl fg, if_pos (by rfl)]
    have f8 := hj.base 8 rfl rfl
    exact opMove hK rfl (ev f8) rfl
  · intro L a w1 hd hj K hK
    have fg := hj.val 13 64 rfl rfl (by simp) rfl (hd ⟨13, .guard⟩ (by simp) rfl)
    rw [wanted_some (c := true) rfl rfl rfl fg, if_pos (by rfl)]
    have f65 := hj.val 14 65 rfl rfl (by simp) rfl (hd ⟨14, .data⟩ (by simp) rfl)
    exact opBin hK rfl (ev f65) rfl (guardInt _ _ _ _ _ _ _ _ _) (binEqInt _ _ _ _ _) (congrArg Value.bool (by rfl))
  · intro L a w1 hd hj K hK
    rw [if_pos (wanted_none rfl)]
    have f64 := hj.val 13 64 rfl rfl (by simp) rfl (hd ⟨13, .data⟩ (by simp) rfl)
    have f66 := hj.val 15 66 rfl rfl (by simp) rfl (hd ⟨15, .data⟩ (by simp) rfl)
    exact opPick hK rfl (b := true) (ev f64) ((if_pos rfl).trans (ev f66)) rfl
  · intro L a w1 hd hj K hK
    rw [if_pos (wanted_none rfl)]
    have f67 := hj.val 16 67 rfl rfl (by simp) rfl (hd ⟨16, .data⟩ (by simp) rfl)
    exact opMove hK rfl (ev f67) rfl
  · intro L a w1 hd hj K hK
    have fg := hj.val 17 68 rfl rfl (by simp) rfl (hd ⟨17, .guard⟩ (by simp) rfl)
    rw [wanted_some (c := true) rfl rfl rfl fg, if_pos (by rfl)]
    have f7 := hj.base 7 rfl rfl
    exact wp_load_row _ _ rfl _ (ev f7) _ _ (0, 0) _ (HB5.out.ext0 hj.ext) Try.underlying70 rfl rqSize (hK _ _ rfl (Ext.refl _ _))
  · intro L a w1 hd hj K hK
    have fg := hj.val 17 68 rfl rfl (by simp) rfl (hd ⟨17, .guard⟩ (by simp) rfl)
    rw [wanted_some (c := true) rfl rfl rfl fg, if_pos (by rfl)]
    exact opCall hK Try.func43 (by kernel_rfl) rfl (args := #[.int .i64 3, .int .i64 1, .int .i64 5, .int .i64 4, .int .i64 2]) (by simp [Act.eval]) (call_of (ask15_any 3 1 5 4 2 _))
  · intro L a w1 hd hj K hK
    have fg := hj.val 17 68 rfl rfl (by simp) rfl (hd ⟨17, .guard⟩ (by simp) rfl)
    rw [wanted_some (c := true) rfl rfl rfl fg, if_pos (by rfl)]
    have f69 := hj.val 18 69 rfl rfl (by simp) rfl (hd ⟨18, .data⟩ (by simp) rfl)
    have f70 := hj.val 19 70 rfl rfl (by simp) rfl (hd ⟨19, .data⟩ (by simp) rfl)
    exact opBin hK rfl (ev f69) (ev f70) (run_eqGuard_agg _ _ _ _ _ _ _ (by kernel_rfl)) (eqRqV (⟨3, 1, ⟨5, ord0, drv0, 4, 2⟩⟩ : Rq) (⟨3, 1, ⟨5, ord0, drv0, 4, 2⟩⟩ : Rq) true rfl _ _ rfl rfl _) rfl
  · intro L a w1 hd hj K hK
    rw [if_pos (wanted_none rfl)]
    have f68 := hj.val 17 68 rfl rfl (by simp) rfl (hd ⟨17, .data⟩ (by simp) rfl)
    have f71 := hj.val 20 71 rfl rfl (by simp) rfl (hd ⟨20, .data⟩ (by simp) rfl)
    exact opPick hK rfl (b := true) (ev f68) ((if_pos rfl).trans (ev f71)) rfl
  · intro L a w1 hd hj K hK
    rw [if_pos (wanted_none rfl)]
    have f72 := hj.val 21 72 rfl rfl (by simp) rfl (hd ⟨21, .data⟩ (by simp) rfl)
    exact opMove hK rfl (ev f72) rfl
  · intro L a w1 hd hj K hK
    have fg := hj.val 22 73 rfl rfl (by simp) rfl (hd ⟨22, .guard⟩ (by simp) rfl)
    rw [wanted_some (c := true) rfl rfl rfl fg, if_pos (by rfl)]
    exact opSlice hK rfl (cs := #[.int .u8 7]) (e := 5) rfl (fun W => by kernel_rfl) ⟨_, rfl, (Blk.new w1 #[.int .u8 7] _).row⟩
  · intro L a w1 hd hj K hK
    have fg := hj.val 22 73 rfl rfl (by simp) rfl (hd ⟨22, .guard⟩ (by simp) rfl)
    rw [wanted_some (c := true) rfl rfl rfl fg, if_pos (by rfl)]
    exact opRun hK (v := .agg #[.int .i64 8, .int .i64 0, .int .i64 0, .int .i64 0]) (w' := w1) (by kernel_rfl) rfl (Ext.refl _ _)
  · intro L a w1 hd hj K hK
    have fg := hj.val 22 73 rfl rfl (by simp) rfl (hd ⟨22, .guard⟩ (by simp) rfl)
    rw [wanted_some (c := true) rfl rfl rfl fg, if_pos (by rfl)]
    obtain ⟨u74, f74, g74⟩ := hj.at_ 23 74 rfl rfl (by simp) (hd ⟨23, .data⟩ (by simp) rfl)
    have f75 := hj.val 24 75 rfl rfl (by simp) rfl (hd ⟨24, .data⟩ (by simp) rfl)
    obtain ⟨A, rfl, R⟩ := g74
    exact opCall hK Try.func44 (by kernel_rfl) rfl (args := #[.slice A 1 1, .agg #[.int .i64 8, .int .i64 0, .int .i64 0, .int .i64 0]]) (by simp [ev f74, ev f75]) ((putRep_any A 1 [7] ⟨8, 0, 0, 0⟩ w1 (by decide) R (by decide)).mono fun e w' ⟨v, h1, h2, h3⟩ => by obtain ⟨A', c', rfl, _, _, r⟩ := Own.slice h2; exact ⟨_, h1, ⟨A', c', rfl, r⟩, h3⟩)
  · intro L a w1 hd hj K hK
    have fg := hj.val 22 73 rfl rfl (by simp) rfl (hd ⟨22, .guard⟩ (by simp) rfl)
    rw [wanted_some (c := true) rfl rfl rfl fg, if_pos (by rfl)]
    exact opSlice hK rfl (cs := #[.int .u8 7, .int .u8 16, .int .u8 0, .int .u8 0, .int .u8 0]) (e := 5) rfl (fun W => by kernel_rfl) ⟨_, rfl, (Blk.new w1 #[.int .u8 7, .int .u8 16, .int .u8 0, .int .u8 0, .int .u8 0] _).row⟩
  · intro L a w1 hd hj K hK
    have fg := hj.val 22 73 rfl rfl (by simp) rfl (hd ⟨22, .guard⟩ (by simp) rfl)
    rw [wanted_some (c := true) rfl rfl rfl fg, if_pos (by rfl)]
    obtain ⟨u76, f76, g76⟩ := hj.at_ 25 76 rfl rfl (by simp) (hd ⟨25, .data⟩ (by simp) rfl)
    obtain ⟨u77, f77, g77⟩ := hj.at_ 26 77 rfl rfl (by simp) (hd ⟨26, .data⟩ (by simp) rfl)
    obtain ⟨A, c, rfl, R⟩ := g76
    obtain ⟨A2, rfl, R2⟩ := g77
    exact opCall hK Try.func17 (by kernel_rfl) rfl (args := #[.slice A 5 c, .slice A2 5 5]) (by simp [ev f76, ev f77]) (call_of (v := .bool true) (same_any A c [7, 16, 0, 0, 0] A2 5 [7, 16, 0, 0, 0] w1 R R2 (by decide) (by decide)))
  · intro L a w1 hd hj K hK
    rw [if_pos (wanted_none rfl)]
    have f73 := hj.val 22 73 rfl rfl (by simp) rfl (hd ⟨22, .data⟩ (by simp) rfl)
    have f78 := hj.val 27 78 rfl rfl (by simp) rfl (hd ⟨27, .data⟩ (by simp) rfl)
    exact opPick hK rfl (b := true) (ev f73) ((if_pos rfl).trans (ev f78)) rfl
  · intro L a w1 hd hj K hK
    rw [if_pos (wanted_none rfl)]
    have f79 := hj.val 28 79 rfl rfl (by simp) rfl (hd ⟨28, .data⟩ (by simp) rfl)
    exact opAssign hK rfl (ev f79) rfl
  intro vs w6 hx hg
  have v29 : vs 29 = .bool true := hg 29 (by simp)
  have X7 : Hid (Ext None_ w w6) := Lib.hid (X6.out.drew.trans0 hx)
  clear hx hg
  simp only [putAll, v29, Nat.reduceAdd, Nat.zero_add]
  simp only [Act.put, List.setIfInBounds_toArray, List.set_cons_succ, List.set_cons_zero]
  go_wp2_with fail
  go_ret
  exact ⟨rfl, X7.out⟩

end Go.Proofs.Ytmobdofkiddfhaa
