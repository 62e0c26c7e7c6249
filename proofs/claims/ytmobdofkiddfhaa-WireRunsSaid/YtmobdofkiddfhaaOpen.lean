/- What the reading of an argument gives: rows of cells, lists. No program in sight. -/
import Derived.Test.YtmobdofkiddfhaaBase
import Derived.Test.YtmobdofkiddfhaaRows
import Derived.ProofKit
import Derived.OpenShut
import Derived.ShutString
import Derived.ChangeOld
import Derived.SizedLaws
import Derived.ChangeSlices
import Derived.JoinedCond
import Derived.Deep.CondSized
set_option linter.unusedVariables false
set_option linter.unusedSimpArgs false
namespace Go.Proofs.Ytmobdofkiddfhaa.B
open Go Go.RowKit Go.ChangeShapes Go.WideShapes

section
variable {H : Type} {enc : TypeId × Value → H} {P : Program} {W : World} {t e : TypeId} {cs : List Value} {d : DataW H} {ps : List MemPlace} {fuel : Nat}
abbrev Tr (enc : TypeId × Value → H) (P : Program) (W : World) (fuel : Nat) (t : TypeId) (cs : List Value) (d : DataW H) (ps : List MemPlace) : Prop := DataW.trod enc P W 0 (fun _ => true) true fuel t cs = some (d, ps)
theorem tr_int {k : IntKind} (hu : P.underlying t = some (.int k)) (h : Tr enc P W fuel t cs d ps) : ∃ n, cs = [.int k n] ∧ (Lit.int k n).wf = true ∧ d = .lit (.int k n) := by
  cases fuel with
  | zero => simp [Tr, DataW.trod] at h
  | succ fuel =>
    unfold Tr DataW.trod at h
    rw [hu] at h
    split at h <;> simp_all
theorem tr_bool (hu : P.underlying t = some .bool) (h : Tr enc P W fuel t cs d ps) : ∃ b, cs = [.bool b] ∧ d = .lit (.bool b) := by
  cases fuel with
  | zero => simp [Tr, DataW.trod] at h
  | succ fuel =>
    unfold Tr DataW.trod at h
    rw [hu] at h
    split at h <;> simp_all
theorem tr_string (hu : P.underlying t = some .string) (h : Tr enc P W fuel t cs d ps) : ∃ s, cs = [.string s] ∧ s.size ≤ maxLen ∧ d = .lit (.string s.data.toList) := by
  cases fuel with
  | zero => simp [Tr, DataW.trod] at h
  | succ fuel =>
    unfold Tr DataW.trod at h
    rw [hu] at h
    split at h <;> simp_all
end
end Go.Proofs.Ytmobdofkiddfhaa.B
