/- What the reading of an argument gives: rows of cells, lists. No program in sight. -/
import Derived.Test.YteofjillmhfamaaBase
import Derived.Test.YteofjillmhfamaaSpec3
import Derived.Test.YteofjillmhfamaaRows
import Derived.ProofKit
import Derived.OpenShut
import Derived.ShutString
import Derived.ChangeOld
import Derived.SizedLaws
import Derived.ChangeSlices
import Derived.JoinedCond
import Derived.Deep.CondSized
set_option linter.unusedVariables false
set_option linter.unusedSimpArgs false
namespace Go.Proofs.Yteofjillmhfamaa.B
open Go Go.RowKit Go.ChangeShapes Go.WideShapes

section
variable {H : Type} {enc : TypeId × Value → H} {P : Program} {W : World} {t e : TypeId} {cs : List Value} {d : DataW H} {ps : List MemPlace} {fuel : Nat}
abbrev Tr (enc : TypeId × Value → H) (P : Program) (W : World) (fuel : Nat) (t : TypeId) (cs : List Value) (d : DataW H) (ps : List MemPlace) : Prop := DataW.trod enc P W 0 (fun _ => true) true fuel t cs = some (d, ps)
theorem tr_int {k : IntKind} (hu : P.underlying t = some (.int k)) (h : Tr enc P W fuel t cs d ps) : ∃ n, cs = [.int k n] ∧ (Lit.int k n).wf = true ∧ d = .lit (.int k n) := by
  cases fuel with
  | zero => simp [Tr, DataW.trod] at h
  | succ fuel =>
    unfold Tr DataW.trod at h
    rw [hu] at h
    split at h <;> simp_all
theorem tr_bool (hu : P.underlying t = some .bool) (h : Tr enc P W fuel t cs d ps) : ∃ b, cs = [.bool b] ∧ d = .lit (.bool b) := by
  cases fuel with
  | zero => simp [Tr, DataW.trod] at h
  | succ fuel =>
    unfold Tr DataW.trod at h
    rw [hu] at h
    split at h <;> simp_all
theorem tr_string (hu : P.underlying t = some .string) (h : Tr enc P W fuel t cs d ps) : ∃ s, cs = [.string s] ∧ s.size ≤ maxLen ∧ d = .lit (.string s.data.toList) := by
  cases fuel with
  | zero => simp [Tr, DataW.trod] at h
  | succ fuel =>
    unfold Tr DataW.trod at h
    rw [hu] at h
    split at h <;> simp_all
end
/-! ### what the bulk gives -/
theorem one_le {H : Type} (d : DataW H) : 1 ≤ Rows.uptoBulk d := by
  cases d with
  | lit l => cases l <;> simp [Rows.uptoBulk]
  | nil => simp [Rows.uptoBulk]
  | ptr d => simp [Rows.uptoBulk]
  | slice elems spare => simp [Rows.uptoBulk]
  | agg parts => simp [Rows.uptoBulk]
  | iface t d => simp [Rows.uptoBulk]
  | map entries => simp [Rows.uptoBulk]
  | held h => simp [Rows.uptoBulk]
theorem part_le {H : Type} {d : DataW H} {l : List (DataW H)} (h : d ∈ l) : Rows.uptoBulk d ≤ Rows.uptoBulkAll l := by
  induction l with
  | nil => cases h
  | cons x r ih =>
    simp only [Rows.uptoBulkAll]
    cases List.mem_cons.1 h with
    | inl e => subst e; omega
    | inr e => have := ih e; omega
theorem length_le {H : Type} (l : List (DataW H)) : l.length ≤ Rows.uptoBulkAll l := by
  induction l with
  | nil => simp [Rows.uptoBulkAll]
  | cons x r ih => have := one_le x; simp only [Rows.uptoBulkAll, List.length_cons]; omega
theorem slice_le {H : Type} (elems spare : List (DataW H)) : elems.length + spare.length + 1 ≤ Rows.uptoBulk (.slice elems spare) := by
  have h1 := length_le elems
  have h2 := length_le spare
  simp only [Rows.uptoBulk]
  omega
theorem bulk_bound {H : Type} {l : List (DataW H)} (hk : Rows.uptoSmall H l = true) : Rows.uptoBulkAll l ≤ 1048576 := of_decide_eq_true hk
section
variable {H : Type} {enc : TypeId × Value → H} {P : Program} {W : World} {t e : TypeId} {d : DataW H} {ps : List MemPlace}
theorem open_row {k : IntKind} {a : Option Addr} {len cap : Nat} (ht : P.underlying t = some (.slice e)) (he : P.underlying e = some (.int k)) (hc : P.cellsOf e = 1) (h : DataW.Trod enc P W 0 (fun _ => true) true t (.slice a len cap) d ps) :
    ∃ l : List Int, len = l.length ∧ Row W a (l.map (Value.int k)) ∧ l.length ≤ cap ∧ cap ≤ Rows.uptoBulk d ∧ ∀ n ∈ l, (Lit.int k n).wf = true := by
  obtain ⟨fuel, hf⟩ := h
  rcases open_ints ht he hc hf with ⟨hcs, _⟩ | ⟨x, l, c, zs, hcs, _, hl, hm, hz, hx, hcell, hwz⟩
  · simp [Value.cells] at hcs
    obtain ⟨rfl, rfl, rfl⟩ := hcs
    exact ⟨[], rfl, Row.nil _ _, by simp, Nat.zero_le _, by simp⟩
  · simp [Value.cells] at hcs
    obtain ⟨rfl, rfl, rfl⟩ := hcs
    have hxd := congrArg Prod.fst hx
    simp only at hxd
    have hzc : zs.length = cap := by simpa using hz
    have hs := slice_le (H := H) (lits k (zs.take len)) (lits k (zs.drop len))
    rw [← hxd] at hs
    simp only [lits, List.length_map, List.length_take, List.length_drop] at hs
    have hlen : (zs.take len).length = len := by rw [List.length_take]; omega
    refine ⟨zs.take len, hlen.symm, fun i v hi => ⟨x, rfl, ?_⟩, by omega, by omega, fun n hn => hwz n (List.mem_of_mem_take hn)⟩
    have hi2 : i < (zs.take len).length := by
      rcases Nat.lt_or_ge i (zs.take len).length with h | h
      · exact h
      · rw [List.getElem?_eq_none (by rw [List.length_map]; exact h)] at hi
        cases hi
    rw [List.getElem?_map, List.getElem?_eq_getElem hi2] at hi
    simp only [Option.map_some, Option.some.injEq] at hi
    rw [hcell i (by rw [List.length_take] at hi2; omega), ← hi, List.getElem_take]
    simp [List.getD_eq_getElem?_getD, List.getElem?_eq_getElem (show i < zs.length by rw [List.length_take] at hi2; omega)]
end
theorem byt_of {l : List Int} (h : ∀ n ∈ l, (Lit.int .u8 n).wf = true) : Byt l := fun n hn => by
  have := h n hn
  simp only [Lit.wf, IntKind.min, IntKind.max, IntKind.signed, IntKind.bits, Bool.and_eq_true, decide_eq_true_eq] at this
  constructor <;> simp at this <;> omega
theorem i64_of {n : Int} (h : (Lit.int .i64 n).wf = true) : I64 n := by
  simp only [Lit.wf, IntKind.min, IntKind.max, IntKind.signed, IntKind.bits, Bool.and_eq_true, decide_eq_true_eq] at h
  constructor <;> simp at h <;> omega
end Go.Proofs.Yteofjillmhfamaa.B
