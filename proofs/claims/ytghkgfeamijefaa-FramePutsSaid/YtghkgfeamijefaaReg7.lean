/- Single operations, the frame not written out: fields, tests against nil, parts of what a call tells. -/
import Derived.Test.YtghkgfeamijefaaReg6
import Derived.WalkLawsBesides
import Derived.Laws.Tables
set_option linter.unusedVariables false
set_option linter.unusedSimpArgs false
namespace Go.Proofs.Ytghkgfeamijefaa.B
open Go
section
variable {P : Program} {o : Oper} {a : Act} {w : World} {K : Act → World → Prop} {Q : Exit → Act → World → Prop} {p : Value → World → Prop}
@[simp] theorem evc {a : Act} (v : Value) : a.eval (.const v) = v := rfl
theorem opFieldA (hK : ∀ v w', p v w' → Ext None_ w w' → K (a.put o.dst v) w') {s : TypeId} {x : Operand} {f : Nat} (ho : o.op = .fieldAddr s x f) {b off k : Nat} (hx : a.eval x = .pointer (some ⟨b, off, none⟩)) (hr : ∀ W : World, (Instr.fieldAt s (.pointer (some ⟨b, off, none⟩)) f).run P W = .ok (.pointer (some ⟨b, off + k, none⟩)) W) (hp : p (.pointer (some ⟨b, off + k, none⟩)) w) : o.wp P a w K Q :=
  opField hK ho hx hr hp
theorem opIndexB (hK : ∀ v w', p v w' → Ext None_ w w' → K (a.put o.dst v) w') {t : TypeId} {x ix : Operand} (ho : o.op = .indexAddr t x ix) {b off n c : Nat} {k : IntKind} {i : Int} {e : TypeId} {sz : Nat} {j : Nat} (hx : a.eval x = .slice (some ⟨b, off, none⟩) n c) (hi : a.eval ix = .int k i)
    (ht : P.underlying t = some (.slice e)) (hsz : (P.info? e).map (·.size) = some sz) (h0 : 0 ≤ i) (h1 : i < n) (hj : off + i.toNat * sz = j) (hp : p (.pointer (some ⟨b, j, none⟩)) w) : o.wp P a w K Q :=
  opIndex hK ho hx hi ht hsz h0 h1 (by
    have : (⟨b, off, none⟩ : Addr).add (i.toNat * sz) = ⟨b, j, none⟩ := by
      subst hj
      unfold Addr.add
      split <;> simp_all
    rw [this]
    exact hp)
theorem binEqNil (t : TypeId) (q : Option Addr) (w : World) (h : P.underlying t = some (.pointer (P.pointee t))) : (binOp .eql t (.pointer q) (.pointer none)).run P w = .ok (.bool q.isNone) w := by
  simp [binOp, run_equal_pointer_nil (P := P) w t q h]
theorem binNeNil (t : TypeId) (q : Option Addr) (w : World) (h : P.underlying t = some (.pointer (P.pointee t))) : (binOp .neq t (.pointer q) (.pointer none)).run P w = .ok (.bool (!q.isNone)) w := by
  simp [binOp, run_equal_pointer_nil (P := P) w t q h]
theorem guardPtr (op : BinOp) (t : TypeId) (x y : Operand) (q r : Option Addr) (w : World) : (eqGuard op t x y (.pointer q) (.pointer r)).run P w = .ok () w := by cases op <;> simp [eqGuard]
theorem opEqNil (hK : ∀ v w', p v w' → Ext None_ w w' → K (a.put o.dst v) w') {t t2 : TypeId} {x y : Operand} (ho : o.op = .binOp .eql t x y t2) {q : Option Addr} (hx : a.eval x = .pointer q) (hy : a.eval y = .pointer none) (h : P.underlying t = some (.pointer (P.pointee t))) (hp : p (.bool q.isNone) w) : o.wp P a w K Q :=
  opBin hK ho hx hy (guardPtr _ _ _ _ _ _ _) (binEqNil _ _ _ h) hp
theorem opNeNil (hK : ∀ v w', p v w' → Ext None_ w w' → K (a.put o.dst v) w') {t t2 : TypeId} {x y : Operand} (ho : o.op = .binOp .neq t x y t2) {q : Option Addr} (hx : a.eval x = .pointer q) (hy : a.eval y = .pointer none) (h : P.underlying t = some (.pointer (P.pointee t))) (hp : p (.bool (!q.isNone)) w) : o.wp P a w K Q :=
  opBin hK ho hx hy (guardPtr _ _ _ _ _ _ _) (binNeNil _ _ _ h) hp
theorem opExtract (hK : ∀ v w', p v w' → Ext None_ w w' → K (a.put o.dst v) w') {x : Operand} {i : Nat} (ho : o.op = .extract x i) {vs : Array Value} {v : Value} (hx : a.eval x = .tuple vs) (hv : vs[i]? = some v) (hp : p v w) : o.wp P a w K Q := by
  refine opVal hK ?_ hp
  unfold execOp
  simp only [ho, hx]
  simp [Instr.extract, hv]
theorem opBuild (hK : ∀ v w', p v w' → Ext None_ w w' → K (a.put o.dst v) w') {ty : TypeId} {parts : Array (Nat × Operand)} (ho : o.op = .build ty parts) {ps : Array (Nat × Value)} (hps : (parts.map fun (i, x) => (i, a.eval x)) = ps) {cells : Array Value} (h : P.built ty ps.toList = some cells) (hp : p (.agg cells) w) : o.wp P a w K Q := by
  refine opVal hK ?_ hp
  unfold execOp
  simp only [ho]
  rw [hps]
  simp [run_build (P := P) w ty ps cells h]
theorem opStoreC {q : Value → World → Prop} {I : World → Prop} {X : World → World → Prop} (hK : ∀ (v : Value) w', q v w' → I w' → X w w' → K (a.put o.dst v) w') {ty : TypeId} {x y : Operand} (ho : o.op = .store ty x y) {ad : Addr} {v : Value} (hx : a.eval x = .pointer (some ad)) (hy : a.eval y = v) (hv : v.oneCell' = true) (hcs : v.cells = #[v]) (hi : (P.info? ty).map (·.size) = some 1) (hc : (w.cell? ad).isSome = true) (hf : w.frozen? ad = false) (hp : q undef (w.setCell ad v)) (hI : I (w.setCell ad v)) (hX : X w (w.setCell ad v)) : o.wp P a w K Q := by
  obtain ⟨inf, hinf, hs⟩ := Option.map_eq_some_iff.1 hi
  obtain ⟨c, hcc⟩ := Option.isSome_iff_exists.1 hc
  have h0 : ad.add 0 = ad := by unfold Addr.add; split <;> simp_all
  have hr : (execOp a.eval o).run P w = .ok .skip (w.setCell ad v) := by
    unfold execOp
    simp only [ho, hx, hy]
    simp [Instr.storeAt, Instr.sureAddr, storeVar, sizeOf, typeInfo, hinf, hs, hcs, storeCells, h0, run_store P w ad v _ hv, hcc, hf]
  unfold Oper.wp
  rw [hr]
  exact hK undef _ hp hI hX
end
end Go.Proofs.Ytghkgfeamijefaa.B
