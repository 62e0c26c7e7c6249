/- Package net: a message in memory; own, walked. -/
import Derived.Test.YthjabbheobpoeaaMf
import Derived.Laws.ResultCell
import Derived.Great.BuildSlice
set_option linter.unusedVariables false
set_option linter.unusedSimpArgs false
namespace Go.Proofs.Ythjabbheobpoeaa
open Go.RowKit B
theorem x0 (w : World) (o : Obj) : Ext None_ w (w.alloc o) := (Ext.refl _ _).alloc _
theorem size_alloc (w : World) (o : Obj) : (w.alloc o).heap.size = w.heap.size + 1 := by simp
structure Msg where
  k : Int
  f : Int
  t : Int
  tm : Int
  ix : Int
  at_ : Int
  cm : Int
  yes : Bool
  es : List (Int × ByteArray)
  snap : ByteArray
def entV (es : List (Int × ByteArray)) : List Value := es.flatMap fun e => [.int .i64 e.1, .string e.2]
theorem entV_length (es : List (Int × ByteArray)) : (entV es).length = es.length * 2 := by
  induction es with
  | nil => rfl
  | cons e r ih => simp [entV] at ih ⊢; omega
theorem entV_one (es : List (Int × ByteArray)) : ∀ u ∈ entV es, u.oneCell' = true := fun u hu => by
  obtain ⟨e, _, he⟩ := List.mem_flatMap.1 hu
  simp at he
  rcases he with rfl | rfl <;> rfl
/-- A message's cells; its entries lie at A. -/
abbrev msgC (q : Msg) (A : Option Addr) (c : Nat) : Array Value := #[.int .i64 q.k, .int .i64 q.f, .int .i64 q.t, .int .i64 q.tm, .int .i64 q.ix, .int .i64 q.at_, .int .i64 q.cm, .bool q.yes, .slice A q.es.length c, .string q.snap]
theorem infoEnt : (Try.prog.info? 72).map (fun i => (i.zero, i.size, i.bytes)) = some (some (.agg #[.int .i64 0, .string ByteArray.empty]), 2, 24) := by kernel_rfl
theorem infoMsg : (Try.prog.info? 28).map (fun i => (i.zero, i.size, i.bytes)) = some (some (.agg #[.int .i64 0, .int .i64 0, .int .i64 0, .int .i64 0, .int .i64 0, .int .i64 0, .int .i64 0, .bool false, .slice none 0 0, .string ByteArray.empty]), 10, 104) := by kernel_rfl
theorem appE {w : World} {ops : Array Oper} {rest : List Oper} {o : Oper} {a : Act} {Q : Exit → Act → World → Prop} (hgd : o.guard = none) (s x : Operand)
    (ho : o.op = .call { callee := .builtin .append, args := #[s, x], argTypes := #[26, 26] })
    (hs : a.eval s = .slice none 0 0) (A : Option Addr) (c : Nat) (es : List (Int × ByteArray)) (hx : a.eval x = .slice A es.length c) (hr : Row w A (entV es)) (hl : es.length ≤ 5864062014805)
    (h : ∀ v' w', Own w' 72 2 (fun k => w.heap.size ≤ k) v' es.length (entV es) → Ext None_ w w' → wpList Try.prog ops Q rest (a.put o.dst v') w') : wpList Try.prog ops Q (o :: rest) a w :=
  app hgd s x 26 ho 72 _ 2 24 Try.underlying26 infoEnt rfl (by decide) (by decide) (fun _ => False) (.slice none 0 0) 0 [] hs (Own.nil _ _ _ _) A es.length c (entV es) hx (entV_length es) hr (entV_one es) (by omega)
    (fun v' w' h1 h2 => h v' w' (by
      rw [List.nil_append, Nat.zero_add] at h1
      exact h1.mono (fun k _ e => by
        rcases e with e | e
        · simp [Value.ownBlock] at e
        · exact e)) (h2.mono (fun k _ e => by simp [Value.ownBlock] at e)))
theorem setRow_block (w : World) (g k : Nat) (cs : Array Value) (h : k ≠ g) : (w.setRow g cs).heap[k]? = w.heap[k]? := by
  simp [World.setRow, Array.getElem?_modify, Ne.symm h]
theorem wpList_store_blk {P : Program} {ops : Array Oper} {rest : List Oper} {o : Oper} {a : Act} {W : World} {Q : Exit → Act → World → Prop} (hgd : o.guard = none) (ty : TypeId) (x y : Operand) (ho : o.op = .store ty x y)
    (g : Nat) (cells : Array Value) (hx : a.eval x = .pointer (some ⟨g, 0, none⟩)) (hy : a.eval y = .agg cells)
    (t : TypeId) (old : Array Value) (hb : Blk W g old t) (hi : (P.info? ty).map (·.size) = some cells.size) (hold : old.size = cells.size) (h1 : cells.toList.all (·.oneCell') = true)
    (h : ∀ w', Blk w' g cells t → Ext (fun k => k = g) W w' → wpList P ops Q rest (a.put o.dst undef) w') : wpList P ops Q (o :: rest) a W :=
  wpList_store_row hgd ty x y ho g cells hx hy t old hb hi hold (by rw [← Array.all_toList]; exact h1)
    (h _ (setRow_heap W g old cells t (0, 0) hb) ⟨rfl, rfl, rfl, by simp [World.setRow], fun k _ hn => setRow_block W g k cells hn⟩)
theorem results1_blk {P : Program} {fn : Func} {p : Tmp} {ty : TypeId} (h : fn.results = #[.cell p ty]) (tmps : Array Value) (w : World) (g : Nat) (t' : TypeId) (cs : Array Value) (d : TypeDesc)
    (hp : tmps.getD p undef = .pointer (some ⟨g, 0, none⟩)) (hg : Blk w g cs t')
    (hu : P.underlying ty = some d) (hd : (match d with | .struct _ | .array _ _ => true | _ => false) = true) (hi : (P.info? ty).map (·.size) = some cs.size) :
    (results fn tmps).run P w = .ok (.agg cs) w := results_cell_row h tmps w g t' cs (0, 0) d hp hg hu hd hi
theorem results2_blk {P : Program} {fn : Func} {p t : Tmp} {ty : TypeId} (h : fn.results = #[.cell p ty, .tmp t]) (tmps : Array Value) (w : World) (g : Nat) (t' : TypeId) (cs : Array Value) (d : TypeDesc)
    {v : Value} (hp : tmps.getD p undef = .pointer (some ⟨g, 0, none⟩)) (hv : tmps.getD t undef = v) (hg : Blk w g cs t')
    (hu : P.underlying ty = some d) (hd : (match d with | .struct _ | .array _ _ => true | _ => false) = true) (hi : (P.info? ty).map (·.size) = some cs.size) :
    (results fn tmps).run P w = .ok (.tuple #[.agg cs, v]) w := by
  subst hv
  have hp' : tmps[p]?.getD undef = .pointer (some ⟨g, 0, none⟩) := by simpa using hp
  simp [results, h, hp', asAddr, run_loadVar_row w g t' ty cs (0, 0) d hg hu hd hi]
theorem msgSize : (Try.prog.info? 28).map (·.size) = some 10 := by kernel_rfl
abbrev msg0 : Msg := ⟨0, 0, 0, 0, 0, 0, 0, false, [], ByteArray.empty⟩
set_option maxRecDepth 100000 in
set_option maxHeartbeats 8000000 in
theorem own_any (q : Msg) (A : Option Addr) (c : Nat) (w : World) (hr : Row w A (entV q.es)) (hl : q.es.length ≤ 5864062014805) :
    Calls Try.prog 23 #[.agg (msgC q A c)] w fun e w' => ∃ A' c', e = .returned (.agg (msgC q A' c')) ∧ Own w' 72 2 (fun k => w.heap.size ≤ k) (.slice A' q.es.length c') q.es.length (entV q.es) ∧ Ext None_ w w' := by
  have HR := Lib.hid hr
  obtain ⟨k, f, t, tm, ix, at_, cm, yes, es, snap⟩ := q
  simp only at hr hl ⊢
  clear hr
  go_enter Try.func23, Try.ntmps23
  go_wp2_with (first
    | (at_builtin; refine appE rfl (.const (.slice none 0 0)) (.tmp 4) rfl rfl A c es rfl (HR.out.ext0 ((x0 w _).trans0 (x0 _ _))) hl ?_; intro v' w2 ho hx; obtain ⟨A2, c2, rfl, _, _, _⟩ := Own.slice ho; have HO := Lib.hid (ho.mono (ok1 := fun k => w.heap.size + 2 ≤ k) (fun k _ h => by simpa using h)); have HX := Lib.hid (((x0 w _).trans0 (x0 _ _)).trans0 hx); have e1 := Blk.ext ((Blk.new w (msgC ⟨k, f, t, tm, ix, at_, cm, yes, es, snap⟩ A c) 28).alloc _) hx (fun a => a); have e2 : Hid (Blk w2 (w.heap.size + 1) (msgC msg0 none 0) 28) := Lib.hid (by have h := Blk.ext (Blk.new (w.alloc _) _ _) hx (fun a => a); rw [size_alloc] at h; exact h); have HE1 := Lib.hid (e1.set 8 (.slice A2 es.length c2)); have k8 := Blk.cell e1 8; have kf := Blk.frozen e1; clear ho hx e1)
    | (refine wpList_load_row rfl 28 (.tmp 1) rfl w.heap.size rfl 28 (msgC ⟨k, f, t, tm, ix, at_, cm, yes, es, snap⟩ A2 c2) (0, 0) _ HE1.out Try.underlying28 rfl msgSize ?_)
    | (refine wpList_store_blk rfl 28 (.tmp 2) (.tmp 7) rfl (w.heap.size + 1) (msgC ⟨k, f, t, tm, ix, at_, cm, yes, es, snap⟩ A2 c2) rfl rfl 28 (msgC msg0 none 0) (e2.out.far (by simp) _) msgSize rfl rfl ?_; intro w3 hb hx; have HB := Lib.hid hb; have HX3 := Lib.hid hx; clear hb hx))
  refine bodyPost_ret (results1_blk rfl _ _ (w.heap.size + 1) 28 (msgC ⟨k, f, t, tm, ix, at_, cm, yes, es, snap⟩ A2 c2) _ rfl HB.out Try.underlying28 rfl msgSize) rfl ?_
  have hx2 : Ext (fun q => q = w.heap.size ∨ q = w.heap.size + 1) w2 w3 := ((Ext.refl (fun q => q = w.heap.size ∨ q = w.heap.size + 1) w2).setCell (p := ⟨w.heap.size, 8, none⟩) (.inl (.inl rfl)) _).trans HX3.out (fun q _ e => .inr e)
  exact ⟨A2, c2, rfl, (HO.out.ext hx2 (fun q hq e => by have := HO.out.blk q hq; omega)).mono (fun q _ h => by omega), HX.out.trans hx2 (fun q hq e => by omega)⟩
end Go.Proofs.Ythjabbheobpoeaa
