/- Further words for this seat's printed contracts: a make with a capacity of its own. -/
import Derived.Test.YtdkpcfgomdfadaaWWords
import Derived.Test.YtdkpcfgomdfadaaWZeros
import Derived.Test.YtdkpcfgomdfadaaWMore
import Derived.Test.YtdkpcfgomdfadaaWGuard
import Derived.Lib.SlBytesConst
import Derived.Laws.CopyOwn
import Derived.Lib.Hide
set_option linter.unusedVariables false
set_option linter.unusedSimpArgs false
namespace Go.Proofs.YtdkpcfgomdfadaaW.PrintWords
open Go.RowKit
namespace Kd
section
variable {α : Type} {P : Program} {ops : Array Oper} {rest : List Oper} {o : Oper} {a : Act} {Q : Exit → Act → World → Prop}
/-- make([]T, 0, n): a row of the call's own that holds nothing yet. -/
theorem R_makec (d : Kd α) {w0 W : World} (base e : Nat) (hgd : o.guard = none) {N : Tmp} (hd : o.dst = some N) (t : TypeId) (x y : Operand) (ho : o.op = .makeSlice t x y) (n : Int) (hx : a.eval x = .int .i64 0) (hy : a.eval y = .int .i64 n)
    (ht : P.underlying t = some (.slice e)) (z : Value) (bytes : Nat) (hinfo : (P.info? e).map (fun i => (i.zero, i.size, i.bytes)) = some (some z, d.sz, bytes)) (hz : z.cells.size = d.sz) (hs0 : 0 < d.sz) (hb0 : 0 < bytes)
    {ok okp : Nat → Prop} (hok : ∀ k, okp k → ok k) (hfresh : ok W.heap.size) (h0 : 0 ≤ n) (hl : n.toNat * bytes ≤ 281474976710656) (HB : Below base w0 W) (hbase : base ≤ W.heap.size)
    (h : ∀ v1 w1, d.R e w1 base ok v1 [] → Below base w0 w1 → W.grownBy w1 none → (∃ b, v1.ownBlock = some b ∧ W.heap.size ≤ b) → wpList P ops Q rest (a.put o.dst v1) w1) : wpList P ops Q (o :: rest) a W := by
  obtain ⟨m, rfl⟩ := Int.eq_ofNat_of_zero_le h0
  simp only [Int.toNat_natCast] at hl h
  obtain ⟨i0, hi, hzz⟩ := Option.map_eq_some_iff.1 hinfo
  simp only [Prod.mk.injEq] at hzz
  obtain ⟨hz0, hz1, hz2⟩ := hzz
  have hm : m ≤ 281474976710656 := Nat.le_trans (Nat.le_mul_of_pos_right _ hb0) hl
  have hr := run_make (P := P) W t e i0 z ht hi hz0 .i64 .i64 0 (m : Int) (by omega) (by omega)
    (by
      have h3 : ((i0.bytes * m : Nat) : Int) ≤ 281474976710656 := by rw [hz2, Nat.mul_comm]; omega
      rwa [Int.natCast_mul] at h3) (by omega)
  simp only [Int.toNat_natCast, Int.toNat_zero] at hr
  rw [hz1] at hr
  have hrun : (execOp a.eval o).run P W = .ok (.value (.slice (some ⟨W.heap.size, 0, none⟩) 0 m)) (W.alloc (.cells (madeCells z.cells (m * d.sz)) e)) := by
    simp [execOp, ho, hx, hy, hr]
  refine event_run hgd hrun (h _ _ ⟨fun k hk => ?_, [], ?_, Reps.none _ _⟩ (HB.alloc hbase _) (World.grownBy_alloc W _ none) ⟨W.heap.size, by simp [Value.ownBlock], Nat.le_refl _⟩)
  · have : W.heap.size = k := by simpa [Value.ownBlock] using hk
    subst this
    exact hfresh
  · refine ⟨by simp, .inr ⟨W.heap.size, m, madeCells z.cells (m * d.sz), rfl, hbase, heap_alloc_new W _, by simp, by simp only [maxLen]; omega, by simp [size_madeCells], by simp⟩⟩
end
section
variable {P : Program} {ops : Array Oper} {rest : List Oper} {o : Oper} {a : Act} {Q : Exit → Act → World → Prop}
/-- '[]byte("..")' of a constant: the literal and the conversion behind it. The row is only read from then on. -/
theorem V_lit {w0 W : World} {o2 : Oper} {T : TypeId} {N : Tmp} (d : Kd Int) (base e : Nat) (hgd : o.guard = none) (hd : o.dst = some N) {xs : List Int} {inner : List Value} {ok okp : Nat → Prop}
    (hrun : (execOp a.eval o).run P W = .ok (.value (.slice (some ⟨W.heap.size, 0, none⟩) xs.length xs.length)) (W.alloc (.cells inner.toArray e)))
    (hrep : Reps (d.M W base okp) d.sz xs inner) (_hok : ∀ k, okp k → ok k) (hfresh : ok W.heap.size) (HB : Below base w0 W) (hbase : base ≤ W.heap.size) (hm : xs.length ≤ 9223372036854775807)
    (hgd2 : ∀ v, Region.wanted o2 (yielded ops (a.put o.dst v).tmps) = true) (ho2 : o2.op = .convert T T (.tmp N)) (ht : P.underlying T = some (.slice e)) (he : P.underlying e = some (.int .u8))
    (hev : ∀ v, (a.put (some N) v).eval (.tmp N) = v) (hdd : d = Kd.int .u8)
    (h : ∀ v1 w1, V d e w1 base ok v1 xs → Below base w0 w1 → W.grownBy w1 none → (∃ b, v1.ownBlock = some b ∧ W.heap.size ≤ b) → wpList P ops Q rest ((a.put o.dst v1).put o2.dst v1) w1) :
    wpList P ops Q (o :: o2 :: rest) a W := by
  subst hdd
  have hlen : inner.length = xs.length := by have := hrep.1; simpa [Kd.int, Kd.scalar] using this
  refine event_run hgd hrun ?_
  have hc := Lib.run_convert_bytes_const (P := P) W T e inner.toArray xs.length xs.length ht he
  have hrun2 : (execOp (a.put o.dst (.slice (some ⟨W.heap.size, 0, none⟩) xs.length xs.length)).eval { o2 with guard := none }).run P (W.alloc (.cells inner.toArray e)) = .ok (.value (.slice (some ⟨W.heap.size, 0, none⟩) xs.length xs.length)) (W.alloc (.cells inner.toArray e (inner.toArray.size, inner.toArray.size + 1))) := by
    rw [hd]
    simp only [execOp, ho2, hev, Sem.run_bind, hc, Result.andThen_ok, Sem.run_pure]
  refine gate_guard (hgd2 _) ?_
  refine event_run (o := { o2 with guard := none }) rfl hrun2 (h _ _ (V_mk (Nat.le_refl _) ?_) (HB.alloc hbase _) (World.grownBy_alloc W _ none) ⟨W.heap.size, by simp [Value.ownBlock], Nat.le_refl _⟩)
  intro W' hW
  refine ⟨rfl, hm, fun _ => ⟨_, rfl, fun j p hj => ?_⟩⟩
  have hblk := hW W.heap.size hfresh (by simp)
  have hnew : (W.alloc (.cells inner.toArray e (inner.toArray.size, inner.toArray.size + 1))).heap[W.heap.size]? = some (.cells inner.toArray e (inner.toArray.size, inner.toArray.size + 1)) := by
    show (W.heap.push _)[W.heap.size]? = _
    simp
  rw [hnew] at hblk
  have hp := hrep.2 j p hj
  have hp2 : (inner.drop (j * 1)).take 1 = [Value.int .u8 p] := hp
  refine ⟨[.int .u8 p], rfl, rfl, fun i u hi => ?_⟩
  cases i with
  | zero =>
    have hu : u = .int .u8 p := by simpa using hi.symm
    subst hu
    rw [Nat.add_zero, Nat.mul_comm]
    show W'.cell? ((⟨W.heap.size, 0, none⟩ : Addr).add (1 * j)) = _
    rw [Nat.one_mul, add_plain, cell_of_row W' W.heap.size j _ _ _ hblk]
    rw [Nat.mul_one] at hp2
    have : inner[j]? = some (Value.int .u8 p) := by
      have h2 : ((inner.drop j).take 1)[0]? = some (Value.int .u8 p) := by rw [hp2]; rfl
      simpa [List.getElem?_take, List.getElem?_drop] using h2
    simpa using this
  | succ i => simp at hi
end
end Kd
end Go.Proofs.YtdkpcfgomdfadaaW.PrintWords
namespace Go.Proofs.YtdkpcfgomdfadaaW.PrintWords
open Go.RowKit
/-! ### What Roomy lays: the list, some marks, noughts -/
theorem xr_made (v : Value) (n : Nat) : madeCells #[v] n = (List.replicate n v).toArray := by
  apply Array.ext
  · simp [size_madeCells]
  · intro i h1 h2
    simp [madeCells, Nat.mod_one]
theorem nums_one (k : IntKind) (xs : List Int) : ∀ v ∈ nums k xs, v.oneCell' = true := by
  intro v hv
  obtain ⟨x, _, rfl⟩ := List.mem_map.1 hv
  rfl
theorem xr_cells {k : IntKind} {w : World} {ad : Addr} {l : List Int} (h : ∀ j p, l[j]? = some p → ∃ c : List Value, c.length = 1 ∧ c = [Value.int k p] ∧ ∀ i u, c[i]? = some u → w.cell? (ad.add (j * 1 + i)) = some u) : ∀ j v, (nums k l)[j]? = some v → w.cell? (ad.add j) = some v := by
  intro j v hv
  unfold nums at hv
  rw [List.getElem?_map] at hv
  obtain ⟨p, hp, rfl⟩ := Option.map_eq_some_iff.1 hv
  obtain ⟨c, _, rfl, hc⟩ := h j p hp
  have := hc 0 (.int k p) rfl
  rw [Nat.mul_one, Nat.add_zero] at this
  exact this
theorem xr_getelem {α : Type} (l : List α) (a z : α) (j : Nat) (hj : j < 80) : (l ++ List.replicate j a ++ List.replicate (80 - j) z).set (l.length + j) a = l ++ List.replicate (j + 1) a ++ List.replicate (80 - (j + 1)) z := by
  rw [List.set_append_right _ _ (by simp), List.length_append, List.length_replicate, Nat.sub_self, show 80 - j = (80 - (j + 1)) + 1 by omega, List.replicate_succ, List.set_cons_zero, List.replicate_succ' (n := j)]
  simp
def xr_cur (k : IntKind) (l : List Int) (a : Int) (j : Nat) : List Value := nums k (l ++ List.replicate j a ++ List.replicate (80 - j) 0)
theorem xr_len (k : IntKind) (l : List Int) (a : Int) (j : Nat) (hj : j ≤ 80) : (xr_cur k l a j).length = l.length + 80 := by
  unfold xr_cur; rw [nums_length]; simp; omega
theorem xr_next (k : IntKind) (l : List Int) (a : Int) (j : Nat) (hj : j < 80) : (xr_cur k l a j).set (l.length + j) (.int k a) = xr_cur k l a (j + 1) := by
  unfold xr_cur nums
  rw [← xr_getelem l a 0 j hj, List.map_set]
theorem xr_last (k : IntKind) (l : List Int) (a : Int) : xr_cur k l a 80 = nums k (l ++ List.replicate 80 a) := by
  unfold xr_cur; simp
theorem xr_first (k : IntKind) (l : List Int) (a : Int) (cur : List Value) (h : cur = List.replicate (l.length + 80) (.int k 0)) : splice cur 0 (nums k l) = xr_cur k l a 0 := by
  subst h
  unfold splice xr_cur nums
  simp
theorem xr_at (k : IntKind) (l : List Int) (a : Int) (j m : Nat) (hj : j ≤ 80) (hm : m < l.length + 80) : ∃ x, (xr_cur k l a j)[m]? = some x := by
  have h : m < (xr_cur k l a j).length := by rw [xr_len k l a j hj]; exact hm
  exact ⟨_, List.getElem?_eq_getElem h⟩
theorem xr_store {k : IntKind} {wr : World} {g e : Nat} {l : List Int} {a : Int} {m : Nat} (hm : l.length ≤ m) (hm2 : m < l.length + 80) (hh : wr.heap[g]? = some (.cells (xr_cur k l a (m - l.length)).toArray e (0, 0))) :
    (wr.setCell ⟨g, m, none⟩ (.int k a)).heap[g]? = some (.cells (xr_cur k l a (m + 1 - l.length)).toArray e (0, 0)) := by
  have hn := xr_next k l a (m - l.length) (by omega)
  rw [show l.length + (m - l.length) = m by omega, show m - l.length + 1 = m + 1 - l.length by omega] at hn
  rw [← hn]
  simp [World.setCell, Array.getElem?_modify, hh]
/-- A row that fills its block. -/
theorem xr_own {k : IntKind} {W w' : World} {g e : Nat} {xs : List Int} (hh : w'.heap[g]? = some (.cells (nums k xs).toArray e (0, 0))) (hg : W.heap.size ≤ g) (hx : xs.length ≤ 281474976710656) :
    Kd.R (Kd.int k) e w' W.heap.size (fun _ => True) (.slice (some ⟨g, 0, none⟩) xs.length xs.length) xs := by
  refine Kd.R_of_own (h1 := fun _ => rfl) ?_ (fun _ _ => trivial)
  have e : encs (Value.int k) xs = nums k xs := rfl
  rw [e]
  exact ⟨by rw [nums_length, Nat.mul_one], .inr ⟨g, xs.length, (nums k xs).toArray, rfl, hg, hh, Nat.le_refl _, by simp only [maxLen]; omega, by simp [nums_length], by simp only [Nat.mul_one]; rw [List.take_of_length_le (by rw [nums_length]; exact Nat.le_refl _)]⟩⟩
end Go.Proofs.YtdkpcfgomdfadaaW.PrintWords
