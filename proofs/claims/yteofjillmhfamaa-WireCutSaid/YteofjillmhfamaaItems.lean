/- What an argument of type Item or []Item reads as. -/
import Derived.Test.YteofjillmhfamaaWReads
import Derived.Test.YteofjillmhfamaaOpen
import Derived.Deep.Slices
set_option linter.unusedVariables false
set_option linter.unusedSimpArgs false
namespace Go.Proofs.Yteofjillmhfamaa
open Go Go.RowKit Go.ChangeShapes Go.WideShapes B
def structOf (P : Program) (t : TypeId) : Option (List (Nat × TypeId)) := match P.underlying t with | some (.struct fs) => some (fs.toList.map fun f => (f.offset, f.type)) | _ => none
section
variable {H : Type} {enc : TypeId × Value → H} {P : Program} {W : World} {t : TypeId} {cs : List Value} {d : DataW H} {ps : List MemPlace} {fuel : Nat}
theorem tr_struct {l : List (Nat × TypeId)} (hs : structOf P t = some l) (h : Tr enc P W fuel t cs d ps) :
    ∃ (xs : List (DataW H × List MemPlace)) (n : Nat), fuel = n + 1 ∧ d = .agg (xs.map (·.1)) ∧ cs.length = P.cellsOf t ∧ xs.length = l.length ∧ ∀ (i o : Nat) (ty : TypeId), l[i]? = some (o, ty) → DataW.trod enc P W 0 (fun _ => true) true n ty ((cs.drop o).take (P.cellsOf ty)) = xs[i]? := by
  unfold structOf at hs
  split at hs
  · next fs hu =>
    injection hs with hs
    subst hs
    obtain ⟨xs, n, hf, hx, hl, hn, hget⟩ := DataW.trod_struct hu h
    refine ⟨xs, n, hf, (Prod.mk.inj hx).1, hl, by simpa using hn, fun i o ty hi => ?_⟩
    rw [List.getElem?_map] at hi
    cases hg : fs.toList[i]? with
    | none => rw [hg] at hi; cases hi
    | some f =>
      rw [hg] at hi
      simp only [Option.map_some, Option.some.injEq, Prod.mk.injEq] at hi
      obtain ⟨rfl, rfl⟩ := hi
      exact hget i f (by rw [← Array.getElem?_toList]; exact hg)
  · cases hs
end
/-- What stands behind an item's fields. -/
structure ItOk (w : World) (x : Item) (A : Option Addr) (c : Nat) : Prop where
  row : Row w A (I8 x.l)
  ints : ∀ n ∈ x.l, I64 n
  n : I64 x.n
  len : x.l.length ≤ 17592186043904
  cap : x.l.length ≤ c
  str : x.s.size ≤ 140737488351232
theorem ItOk.ext {S : Nat → Prop} {w w1 : World} {x : Item} {A : Option Addr} {c : Nat} (h : ItOk w x A c) (he : Ext S w w1) (hn : ∀ k, k < w.heap.size → ¬ S k) : ItOk w1 x A c := by
  refine ⟨?_, h.ints, h.n, h.len, h.cap, h.str⟩
  by_cases h0 : 0 < (I8 x.l).length
  · exact h.row.ext he (fun ad ha hs => hn _ (h.row.lt h0 ad ha) hs)
  · intro i v hi
    have : (I8 x.l)[i]? = none := List.getElem?_eq_none (by omega)
    rw [this] at hi
    cases hi
theorem six {α : Type} {l : List α} (h : l.length = 6) : ∃ a b c d e f, l = [a, b, c, d, e, f] := by
  match l, h with
  | [a, b, c, d, e, f], _ => exact ⟨a, b, c, d, e, f, rfl⟩
theorem add_fld (ad : Addr) (n k : Nat) (h : 0 < k) : (⟨(ad.add n).block, (ad.add n).off + k, none⟩ : Addr) = ad.add (n + k) := by
  unfold Addr.add
  by_cases hn : n = 0
  · simp [hn]; omega
  · simp [hn, Nat.add_assoc]
end Go.Proofs.Yteofjillmhfamaa
