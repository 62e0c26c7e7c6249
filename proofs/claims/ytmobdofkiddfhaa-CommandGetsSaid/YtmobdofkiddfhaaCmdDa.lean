/- Words for Decode: a string's bytes in new memory, whole structs stored, two results. Written by gen_dec.py. -/
import Derived.Test.YtmobdofkiddfhaaCmdF
import Derived.Test.YtmobdofkiddfhaaCmdG1
import Derived.Test.YtmobdofkiddfhaaCmdG2
import Derived.Test.YtmobdofkiddfhaaCmdG4
import Derived.Test.YtmobdofkiddfhaaCmdG5
import Derived.Lib.ConvBytes
set_option linter.unusedVariables false
set_option linter.unusedSimpArgs false
namespace Go.Proofs.Ytmobdofkiddfhaa
open Go.RowKit B

theorem Byt_of (s : ByteArray) : Byt (bytesOf s) := fun n hn => by
  simp only [bytesOf, List.mem_map] at hn
  obtain ⟨b, _, rfl⟩ := hn
  have := b.toNat_lt
  omega
theorem conv_bytes (w : World) (s : ByteArray) : ∃ A c W', (convert 9 23 (.string s)).run Try.prog w = .ok (.slice A (bytesOf s).length c) W' ∧ Ext None_ w W' ∧ Row W' A (B8 (bytesOf s)) ∧ W'.heap.size = w.heap.size + 1 := by
  refine ⟨some ⟨w.heap.size, 0, none⟩, grownCap w s.size 0 5, Lib.bytesWorld w 5 s, ?_, ?_, ?_, Lib.bytesWorld_size _ _ _⟩
  · rw [bytesOf_length]
    exact Lib.run_convert_string_bytes w 9 23 5 s Try.underlying9 Try.underlying23 Try.underlying5
  · refine ⟨rfl, rfl, rfl, by rw [Lib.bytesWorld_size]; omega, fun k hk _ => Lib.bytesWorld_at_old w _ s k hk⟩
  · intro i v hi
    refine ⟨_, rfl, ?_⟩
    have hl : i < s.data.toList.length := by
      have := (List.getElem?_eq_some_iff.1 hi).1
      simpa [B8, bytesOf] using this
    rw [add_plain, Lib.bytesWorld_cell w _ s i (by show i < s.data.size; rwa [Array.length_toList] at hl)]
    simp only [B8, bytesOf, List.getElem?_map, List.getElem?_eq_getElem hl, Option.map_some, Option.some.injEq] at hi
    rw [← hi, List.getD, List.getElem?_eq_getElem hl]
    rfl
theorem setRow_block (w : World) (g k : Nat) (cs : Array Value) (h : k ≠ g) : (w.setRow g cs).heap[k]? = w.heap[k]? := by
  simp [World.setRow, Array.getElem?_modify, Ne.symm h]
theorem wpList_store_blk {P : Program} {ops : Array Oper} {rest : List Oper} {o : Oper} {a : Act} {W : World} {Q : Exit → Act → World → Prop} (hgd : o.guard = none) (ty : TypeId) (x y : Operand) (ho : o.op = .store ty x y)
    (g : Nat) (cells : Array Value) (hx : a.eval x = .pointer (some ⟨g, 0, none⟩)) (hy : a.eval y = .agg cells)
    (t : TypeId) (old : Array Value) (hb : Blk W g old t) (hi : (P.info? ty).map (·.size) = some cells.size) (hold : old.size = cells.size) (h1 : cells.toList.all (·.oneCell') = true)
    (h : ∀ w', Blk w' g cells t → Ext (fun k => k = g) W w' → wpList P ops Q rest (a.put o.dst undef) w') : wpList P ops Q (o :: rest) a W :=
  wpList_store_row hgd ty x y ho g cells hx hy t old hb hi hold (by rw [← Array.all_toList]; exact h1)
    (h _ (setRow_heap W g old cells t (0, 0) hb) ⟨rfl, rfl, rfl, by simp [World.setRow], fun k _ hn => setRow_block W g k cells hn⟩)
theorem results2_blk {P : Program} {fn : Func} {p t : Tmp} {ty : TypeId} (h : fn.results = #[.cell p ty, .tmp t]) (tmps : Array Value) (w : World) (g : Nat) (t' : TypeId) (cs : Array Value) (d : TypeDesc)
    {v : Value} (hp : tmps.getD p undef = .pointer (some ⟨g, 0, none⟩)) (hv : tmps.getD t undef = v) (hg : Blk w g cs t')
    (hu : P.underlying ty = some d) (hd : (match d with | .struct _ | .array _ _ => true | _ => false) = true) (hi : (P.info? ty).map (·.size) = some cs.size) :
    (results fn tmps).run P w = .ok (.tuple #[.agg cs, v]) w := by
  subst hv
  have hp' : tmps[p]?.getD undef = .pointer (some ⟨g, 0, none⟩) := by simpa using hp
  simp [results, h, hp', asAddr, run_loadVar_row w g t' ty cs (0, 0) d hg hu hd hi]
theorem rqSize : (Try.prog.info? 70).map (·.size) = some 21 := by kernel_rfl
def rq0 : Rq := ⟨0, 0, ⟨0, ord0, drv0, 0, 0⟩⟩
def d1 (l : List Int) : Int × RS := NumR l ⟨0, 0, 0⟩
def d2 (l : List Int) : Int × RS := NumR l (d1 l).2
def d3 (l : List Int) : Int × RS := NumR l (d2 l).2
def o4 (l : List Int) (k : Int) (s : RS) : Ord × RS := if (nmd k).o = true then ordR l s else (ord0, s)
def o5 (l : List Int) (k : Int) (s : RS) : Drv × RS := if (nmd k).d = true then drvR l s else (drv0, s)
def o6 (l : List Int) (k : Int) (s : RS) : Int × RS := if (nmd k).i = true then NumR l s else (0, s)
def o7 (l : List Int) (k : Int) (s : RS) : Int × RS := if (nmd k).c = true then NumR l s else (0, s)
def decS (l : List Int) (k : Int) (s : RS) : Cmd × RS := (⟨k, (o4 l k s).1, (o5 l k (o4 l k s).2).1, (o6 l k (o5 l k (o4 l k s).2).2).1, (o7 l k (o6 l k (o5 l k (o4 l k s).2).2).2).1⟩, (o7 l k (o6 l k (o5 l k (o4 l k s).2).2).2).2)
def decE (l : List Int) (q : Rq) (s : RS) : Rq × Int := if (EndR l s).fe = 0 then (q, 0) else (rq0, (EndR l s).fe)
def decR (l : List Int) : Rq × Int :=
  if (d3 l).2.fe = 0 ∧ (nmd (d3 l).1).ok = false then (rq0, 4)
  else decE l ⟨(d1 l).1, (d2 l).1, (decS l (d3 l).1 (d3 l).2).1⟩ (decS l (d3 l).1 (d3 l).2).2
theorem NumR_bad0 {l : List Int} {s : RS} (h : ¬ s.fe = 0) : NumR l s = (0, s) := by unfold NumR; rw [if_neg h]
theorem NumR_zero {l : List Int} {s s' : RS} {n : Int} (h : NumR l s = (n, s')) (hf : ¬ s'.fe = 0) : n = 0 := by
  by_cases h0 : s.fe = 0
  · unfold NumR at h
    rw [if_pos h0] at h
    have := numR_zero l s.pos s h0 (by rw [h]; exact hf)
    rw [h] at this
    exact this
  · rw [NumR_bad0 h0] at h
    simp only [Prod.mk.injEq] at h
    exact h.1.symm
theorem decE_ok {l : List Int} {q : Rq} {s : RS} (h : (EndR l s).fe = 0) : decE l q s = (q, 0) := by unfold decE; rw [if_pos h]
theorem decE_bad {l : List Int} {q : Rq} {s : RS} (h : ¬ (EndR l s).fe = 0) : decE l q s = (rq0, (EndR l s).fe) := by unfold decE; rw [if_neg h]
theorem ret_dec {p : Rq × Int} {q : Rq} {e : Int} (h : p = (q, e)) : Ending.returned (.tuple #[.agg q.cells, .int .i64 e]) = .returned (.tuple #[.agg p.1.cells, .int .i64 p.2]) := by rw [h]
theorem nmd0 : nmd 0 = ⟨false, false, false, false, false⟩ := by simp [nmd]
end Go.Proofs.Ytmobdofkiddfhaa
