/- What an argument of type Item or []Item reads as. -/
import Derived.Test.YtmobdofkiddfhaaWReads
import Derived.Test.YtmobdofkiddfhaaOpen
import Derived.Deep.Slices
set_option linter.unusedVariables false
set_option linter.unusedSimpArgs false
namespace Go.Proofs.Ytmobdofkiddfhaa
open Go Go.RowKit Go.ChangeShapes Go.WideShapes B
def structOf (P : Program) (t : TypeId) : Option (List (Nat × TypeId)) := match P.underlying t with | some (.struct fs) => some (fs.toList.map fun f => (f.offset, f.type)) | _ => none
section
variable {H : Type} {enc : TypeId × Value → H} {P : Program} {W : World} {t : TypeId} {cs : List Value} {d : DataW H} {ps : List MemPlace} {fuel : Nat}
theorem tr_struct {l : List (Nat × TypeId)} (hs : structOf P t = some l) (h : Tr enc P W fuel t cs d ps) :
    ∃ (xs : List (DataW H × List MemPlace)) (n : Nat), fuel = n + 1 ∧ d = .agg (xs.map (·.1)) ∧ cs.length = P.cellsOf t ∧ xs.length = l.length ∧ ∀ (i o : Nat) (ty : TypeId), l[i]? = some (o, ty) → DataW.trod enc P W 0 (fun _ => true) true n ty ((cs.drop o).take (P.cellsOf ty)) = xs[i]? := by
  unfold structOf at hs
  split at hs
  · next fs hu =>
    injection hs with hs
    subst hs
    obtain ⟨xs, n, hf, hx, hl, hn, hget⟩ := DataW.trod_struct hu h
    refine ⟨xs, n, hf, (Prod.mk.inj hx).1, hl, by simpa using hn, fun i o ty hi => ?_⟩
    rw [List.getElem?_map] at hi
    cases hg : fs.toList[i]? with
    | none => rw [hg] at hi; cases hi
    | some f =>
      rw [hg] at hi
      simp only [Option.map_some, Option.some.injEq, Prod.mk.injEq] at hi
      obtain ⟨rfl, rfl⟩ := hi
      exact hget i f (by rw [← Array.getElem?_toList]; exact hg)
  · cases hs
end
/-- What stands behind an item's fields. -/
structure ItOk (w : World) (x : Item) (A : Option Addr) (c : Nat) : Prop where
  row : Row w A (I8 x.l)
  ints : ∀ n ∈ x.l, I64 n
  n : I64 x.n
  len : x.l.length ≤ 1048576
  cap : x.l.length ≤ c
  str : x.s.size ≤ 1048576
theorem ItOk.ext {S : Nat → Prop} {w w1 : World} {x : Item} {A : Option Addr} {c : Nat} (h : ItOk w x A c) (he : Ext S w w1) (hn : ∀ k, k < w.heap.size → ¬ S k) : ItOk w1 x A c := by
  refine ⟨?_, h.ints, h.n, h.len, h.cap, h.str⟩
  by_cases h0 : 0 < (I8 x.l).length
  · exact h.row.ext he (fun ad ha hs => hn _ (h.row.lt h0 ad ha) hs)
  · intro i v hi
    have : (I8 x.l)[i]? = none := List.getElem?_eq_none (by omega)
    rw [this] at hi
    cases hi
theorem six {α : Type} {l : List α} (h : l.length = 6) : ∃ a b c d e f, l = [a, b, c, d, e, f] := by
  match l, h with
  | [a, b, c, d, e, f], _ => exact ⟨a, b, c, d, e, f, rfl⟩
theorem open_item0 {H : Type} {enc : TypeId × Value → H} {W : World} {cs : List Value} {d : DataW H} {ps : List MemPlace} {fuel : Nat} (h : Tr enc Try.prog W fuel 37 cs d ps) :
    ∃ (x : Item) (A : Option Addr) (c : Nat), cs = [.int .i64 x.kind, .int .i64 x.n, .int .i64 x.most, .slice A x.l.length c, .string x.s, .bool x.f] ∧ (Rows.uptoBulk d ≤ 1048576 → ItOk W x A c) := by
  obtain ⟨xs, n, rfl, rfl, hl, hn, hget⟩ := tr_struct (l := [(0, 3), (1, 3), (2, 3), (3, 35), (4, 9), (5, 4)]) (by kernel_rfl) h
  obtain ⟨v0, v1, v2, v3, v4, v5, rfl⟩ := six (hl.trans (by kernel_rfl))
  obtain ⟨x0, x1, x2, x3, x4, x5, rfl⟩ := six hn
  have g0 := hget 0 _ _ rfl
  have g1 := hget 1 _ _ rfl
  have g2 := hget 2 _ _ rfl
  have g3 := hget 3 _ _ rfl
  have g4 := hget 4 _ _ rfl
  have g5 := hget 5 _ _ rfl
  have c1 : Try.prog.cellsOf 3 = 1 := by kernel_rfl
  have c3 : Try.prog.cellsOf 35 = 1 := by kernel_rfl
  have c4 : Try.prog.cellsOf 9 = 1 := by kernel_rfl
  have c5 : Try.prog.cellsOf 4 = 1 := by kernel_rfl
  rw [c1] at g0 g1 g2
  rw [c3] at g3
  rw [c4] at g4
  rw [c5] at g5
  simp only [List.drop, List.take, List.getElem?_cons_zero, List.getElem?_cons_succ] at g0 g1 g2 g3 g4 g5
  obtain ⟨n0, e0, _, _⟩ := tr_int (k := .i64) (d := x0.1) (ps := x0.2) (by kernel_rfl) g0
  obtain ⟨n1, e1, w1, _⟩ := tr_int (k := .i64) (d := x1.1) (ps := x1.2) (by kernel_rfl) g1
  obtain ⟨n2, e2, _, _⟩ := tr_int (k := .i64) (d := x2.1) (ps := x2.2) (by kernel_rfl) g2
  obtain ⟨s, e4, hs, d4⟩ := tr_string (d := x4.1) (ps := x4.2) (by kernel_rfl) g4
  obtain ⟨b, e5, _⟩ := tr_bool (d := x5.1) (ps := x5.2) (by kernel_rfl) g5
  obtain ⟨A, len, c, e3⟩ : ∃ A len c, v3 = .slice A len c := by
    rcases DataW.trod_slice (e := 3) (by kernel_rfl) g3 with ⟨q, _⟩ | ⟨a, len, cap, _, _, _, _, q, _⟩
    · exact ⟨_, _, _, by simpa using q⟩
    · exact ⟨_, _, _, by simpa using q⟩
  subst e3
  obtain ⟨l, rfl, hr, hc, hm, hw⟩ := open_row (e := 3) (a := A) (len := len) (cap := c) (k := .i64) (by kernel_rfl) (by kernel_rfl) (by kernel_rfl) ⟨n, g3⟩
  simp only [List.cons.injEq, and_true] at e0 e1 e2 e4 e5
  subst e0 e1 e2 e4 e5
  refine ⟨⟨n0, n1, n2, l, s, b⟩, A, c, rfl, fun hb => ?_⟩
  have hbl : Rows.uptoBulkAll ([x0, x1, x2, x3, x4, x5].map (·.1)) ≤ 1048576 := by simp only [Rows.uptoBulk] at hb; omega
  have b3 : Rows.uptoBulk x3.1 ≤ 1048576 := Nat.le_trans (part_le (by simp)) hbl
  have b4 : Rows.uptoBulk x4.1 ≤ 1048576 := Nat.le_trans (part_le (by simp)) hbl
  refine ⟨hr, fun k hk => i64_of (hw k hk), i64_of w1, (show l.length ≤ 1048576 by omega), hc, ?_⟩
  rw [d4] at b4
  simp only [Rows.uptoBulk, Array.length_toList] at b4
  have : s.size = s.data.size := rfl
  show s.size ≤ 1048576
  omega
theorem open_item {H : Type} {enc : TypeId × Value → H} {W : World} {cs : List Value} {d : DataW H} {ps : List MemPlace} {fuel : Nat} (hb : Rows.uptoBulk d ≤ 1048576) (h : Tr enc Try.prog W fuel 37 cs d ps) :
    ∃ (x : Item) (A : Option Addr) (c : Nat), cs = [.int .i64 x.kind, .int .i64 x.n, .int .i64 x.most, .slice A x.l.length c, .string x.s, .bool x.f] ∧ ItOk W x A c := by
  obtain ⟨x, A, c, e, hk⟩ := open_item0 h
  exact ⟨x, A, c, e, hk hb⟩
/-- The items of a slice, where they lie. -/
def Its (w : World) (a : Option Addr) (its : List (Item × Option Addr × Nat)) : Prop := ∀ i q, its[i]? = some q → ∃ ad, a = some ad ∧
  (w.cell? (ad.add (i * 6)) = some (.int .i64 q.1.kind) ∧ w.cell? (ad.add (i * 6 + 1)) = some (.int .i64 q.1.n) ∧ w.cell? (ad.add (i * 6 + 2)) = some (.int .i64 q.1.most) ∧ w.cell? (ad.add (i * 6 + 3)) = some (.slice q.2.1 q.1.l.length q.2.2) ∧ w.cell? (ad.add (i * 6 + 4)) = some (.string q.1.s) ∧ w.cell? (ad.add (i * 6 + 5)) = some (.bool q.1.f)) ∧ ItOk w q.1 q.2.1 q.2.2
theorem open_items {H : Type} {enc : TypeId × Value → H} {W : World} {d : DataW H} {ps : List MemPlace} {a : Option Addr} {len cap : Nat} (hb : Rows.uptoBulk d ≤ 1048576) (h : DataW.Trod enc Try.prog W 0 (fun _ => true) true 31 (.slice a len cap) d ps) :
    ∃ its : List (Item × Option Addr × Nat), len = its.length ∧ Its W a its ∧ its.length ≤ cap ∧ cap ≤ 1048576 := by
  obtain ⟨fuel, hf⟩ := h
  have c6 : Try.prog.cellsOf 37 = 6 := by kernel_rfl
  rcases Go.Deep.open_slice (e := 37) (by kernel_rfl) hf with ⟨hcs, _⟩ | ⟨ad, len', cap', m, n, D, Pl, hcs, _, hl, hm, hmm, hx, hel⟩
  · simp [Value.cells] at hcs
    obtain ⟨rfl, rfl, rfl⟩ := hcs
    exact ⟨[], rfl, fun i q hi => by simp at hi, by simp, by omega⟩
  · simp [Value.cells] at hcs
    obtain ⟨rfl, rfl, rfl⟩ := hcs
    simp only [if_true] at hmm
    subst hmm
    have hxd := congrArg Prod.fst hx
    simp only at hxd
    rw [hxd] at hb
    have hs := slice_le (H := H) ((List.range len).map D) ((List.range (m - len)).map fun j => D (len + j))
    simp only [List.length_map, List.length_range] at hs
    have hel2 : ∀ i, i < len → ∃ q : Item × Option Addr × Nat, (W.cell? (ad.add (i * 6)) = some (.int .i64 q.1.kind) ∧ W.cell? (ad.add (i * 6 + 1)) = some (.int .i64 q.1.n) ∧ W.cell? (ad.add (i * 6 + 2)) = some (.int .i64 q.1.most) ∧ W.cell? (ad.add (i * 6 + 3)) = some (.slice q.2.1 q.1.l.length q.2.2) ∧ W.cell? (ad.add (i * 6 + 4)) = some (.string q.1.s) ∧ W.cell? (ad.add (i * 6 + 5)) = some (.bool q.1.f)) ∧ ItOk W q.1 q.2.1 q.2.2 := by
      intro i hi
      obtain ⟨cs', h1, h2⟩ := hel i (by omega)
      rw [c6] at h1
      have hD : Rows.uptoBulk (D i) ≤ 1048576 := by
        have h5 := part_le (H := H) (d := D i) (l := (List.range len).map D) (List.mem_map.2 ⟨i, List.mem_range.2 hi, rfl⟩)
        simp only [Rows.uptoBulk] at hb
        omega
      obtain ⟨x, A, c, rfl, hok⟩ := open_item hD h2
      obtain ⟨_, _, hc⟩ := World.cells?_some h1
      have k0 := hc 0 (by omega)
      have k1 := hc 1 (by omega)
      have k2 := hc 2 (by omega)
      have k3 := hc 3 (by omega)
      have k4 := hc 4 (by omega)
      have k5 := hc 5 (by omega)
      simp only [B.add_add, Nat.add_zero] at k0 k1 k2 k3 k4 k5
      exact ⟨(x, A, c), ⟨k0, k1, k2, k3, k4, k5⟩, hok⟩
    have : Inhabited (Item × Option Addr × Nat) := ⟨(⟨0, 0, 0, [], ByteArray.empty, false⟩, none, 0)⟩
    obtain ⟨f, hf2⟩ := Go.Deep.choose_lt hel2
    refine ⟨(List.range len).map f, by simp, fun i q hi => ?_, by simpa using hl, by omega⟩
    rw [List.getElem?_map] at hi
    by_cases hi2 : i < len
    · rw [List.getElem?_range hi2] at hi
      simp only [Option.map_some, Option.some.injEq] at hi
      subst hi
      exact ⟨ad, rfl, hf2 i hi2⟩
    · rw [List.getElem?_eq_none (by simpa using hi2)] at hi
      cases hi
theorem add_fld (ad : Addr) (n k : Nat) (h : 0 < k) : (⟨(ad.add n).block, (ad.add n).off + k, none⟩ : Addr) = ad.add (n + k) := by
  unfold Addr.add
  by_cases hn : n = 0
  · simp [hn]; omega
  · simp [hn, Nat.add_assoc]
/-- .. as the walk asks for them. -/
theorem Its.at_ {w : World} {a : Option Addr} {its : List (Item × Option Addr × Nat)} (h : Its w a its) {i : Nat} (hi : i < its.length) : ∃ (q : Item × Option Addr × Nat) (ad : Addr), its[i]? = some q ∧ a = some ad ∧
    (w.cell? (ad.add (i * 6)) = some (.int .i64 q.1.kind) ∧ w.cell? ⟨(ad.add (i * 6)).block, (ad.add (i * 6)).off + 1, none⟩ = some (.int .i64 q.1.n) ∧ w.cell? ⟨(ad.add (i * 6)).block, (ad.add (i * 6)).off + 2, none⟩ = some (.int .i64 q.1.most) ∧ w.cell? ⟨(ad.add (i * 6)).block, (ad.add (i * 6)).off + 3, none⟩ = some (.slice q.2.1 q.1.l.length q.2.2) ∧ w.cell? ⟨(ad.add (i * 6)).block, (ad.add (i * 6)).off + 4, none⟩ = some (.string q.1.s) ∧ w.cell? ⟨(ad.add (i * 6)).block, (ad.add (i * 6)).off + 5, none⟩ = some (.bool q.1.f)) ∧ ItOk w q.1 q.2.1 q.2.2 := by
  obtain ⟨ad, ha, ⟨k0, k1, k2, k3, k4, k5⟩, hok⟩ := h i its[i] (by simp)
  refine ⟨its[i], ad, by simp, ha, ⟨k0, ?_, ?_, ?_, ?_, ?_⟩, hok⟩ <;> rw [add_fld _ _ _ (by omega)] <;> assumption
theorem Its.ext {S : Nat → Prop} {w w1 : World} {a : Option Addr} {its : List (Item × Option Addr × Nat)} (h : Its w a its) (he : Ext S w w1) (hn : ∀ k, k < w.heap.size → ¬ S k) : Its w1 a its := by
  intro i q hi
  obtain ⟨ad, ha, ⟨k0, k1, k2, k3, k4, k5⟩, hok⟩ := h i q hi
  have hlt : ∀ j, w.cell? (ad.add j) ≠ none → ¬ S ad.block := fun j hj => hn _ (by
    have h6 := B.add_block ad j
    rw [← h6]
    by_cases hlt : (ad.add j).block < w.heap.size
    · exact hlt
    · exact absurd (Classical.not_not.1 fun hc => hlt (by obtain ⟨v, hv⟩ := Option.ne_none_iff_exists'.1 hc; exact World.block_lt_of_cell? w _ hv)) hj)
  have hS : ¬ S ad.block := hlt (i * 6) (by rw [k0]; simp)
  have hS' : ∀ j, ¬ S (ad.add j).block := fun j => by rw [B.add_block]; exact hS
  exact ⟨ad, ha, ⟨he.cell k0 (hS' _), he.cell k1 (hS' _), he.cell k2 (hS' _), he.cell k3 (hS' _), he.cell k4 (hS' _), he.cell k5 (hS' _)⟩, hok.ext he hn⟩
end Go.Proofs.Ytmobdofkiddfhaa
