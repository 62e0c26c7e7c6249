/- Single operations, the frame not written out: loads, fields, tests against nil, negation. -/
import Derived.Test.YtghkgfeamijefaaReg
import Derived.Deep.MidRow
set_option linter.unusedVariables false
set_option linter.unusedSimpArgs false
namespace Go.Proofs.Ytghkgfeamijefaa.B
open Go
section
variable {P : Program} {o : Oper} {a : Act} {w : World} {K : Act → World → Prop} {Q : Exit → Act → World → Prop} {p : Value → World → Prop}
theorem opVal (hK : ∀ v w', p v w' → Ext None_ w w' → K (a.put o.dst v) w') {v : Value} (hr : (execOp a.eval o).run P w = .ok (.value v) w) (hp : p v w) : o.wp P a w K Q := opRun hK hr hp (Ext.refl _ _)
theorem opLoad (hK : ∀ v w', p v w' → Ext None_ w w' → K (a.put o.dst v) w') {ty : TypeId} {x : Operand} (ho : o.op = .load ty x) {ad : Addr} {v : Value} {d : TypeDesc} (hx : a.eval x = .pointer (some ad)) (hu : P.underlying ty = some d) (hd : d.isRow = false) (hc : w.cell? ad = some v) (hp : p v w) : o.wp P a w K Q := by
  refine opVal hK ?_ hp
  unfold execOp
  simp only [ho, hx]
  have hagg : (isAgg ty).run P w = .ok false w := by
    unfold isAgg
    rw [Sem.run_bind, run_underlying hu w]
    cases d <;> simp_all
  simp [Instr.loadAt, Instr.sureAddr, loadVar, Sem.run_bind, hagg, hc]
theorem opLoadMid (hK : ∀ v w', p v w' → Ext None_ w w' → K (a.put o.dst v) w') {ty : TypeId} {x : Operand} (ho : o.op = .load ty x) (b off : Nat) (hx : a.eval x = .pointer (some ⟨b, off, none⟩)) (cs : List Value) {d : TypeDesc} (hc : w.rangeAt b off cs)
    (hu : P.underlying ty = some d) (hd : d.isRow = true) (hi : (P.info? ty).map (·.size) = some cs.length) (hp : p (.agg cs.toArray) w) : o.wp P a w K Q :=
  wp_load_mid ty x ho b off hx cs d hc hu hd hi (hK _ _ hp (Ext.refl _ _))
theorem opNil (hK : ∀ v w', p v w' → Ext None_ w w' → K (a.put o.dst v) w') {x : Operand} (ho : o.op = .nilCheck x) {ad : Addr} (hx : a.eval x = .pointer (some ad)) (hp : p (.pointer (some ad)) w) : o.wp P a w K Q := by
  refine opVal hK ?_ hp
  unfold execOp
  simp only [ho, hx]
  rfl
theorem opNot (hK : ∀ v w', p v w' → Ext None_ w w' → K (a.put o.dst v) w') {t : TypeId} {x : Operand} (ho : o.op = .unOp .not t x) {b : Bool} (hx : a.eval x = .bool b) (hp : p (.bool (!b)) w) : o.wp P a w K Q := by
  refine opVal hK ?_ hp
  unfold execOp
  simp only [ho, hx]
  rfl
theorem opField (hK : ∀ v w', p v w' → Ext None_ w w' → K (a.put o.dst v) w') {s : TypeId} {x : Operand} {f : Nat} (ho : o.op = .fieldAddr s x f) {vx v : Value} (hx : a.eval x = vx) (hr : ∀ W : World, (Instr.fieldAt s vx f).run P W = .ok v W) (hp : p v w) : o.wp P a w K Q := by
  refine opVal hK ?_ hp
  unfold execOp
  simp only [ho, hx]
  simp [hr w]
end
end Go.Proofs.Ytghkgfeamijefaa.B
