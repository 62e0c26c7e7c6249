/- Single operations, the frame not written out: indexes, conversions and arithmetic of whole numbers, lengths. -/
import Derived.Test.YtghkgfeamijefaaReg2
set_option linter.unusedVariables false
set_option linter.unusedSimpArgs false
namespace Go.Proofs.Ytghkgfeamijefaa.B
open Go
section
variable {P : Program} {o : Oper} {a : Act} {w : World} {K : Act → World → Prop} {Q : Exit → Act → World → Prop} {p : Value → World → Prop}
theorem opIndex (hK : ∀ v w', p v w' → Ext None_ w w' → K (a.put o.dst v) w') {t : TypeId} {x ix : Operand} (ho : o.op = .indexAddr t x ix) {ad : Addr} {n c : Nat} {k : IntKind} {i : Int} {e : TypeId} {sz : Nat} (hx : a.eval x = .slice (some ad) n c) (hi : a.eval ix = .int k i)
    (ht : P.underlying t = some (.slice e)) (hsz : (P.info? e).map (·.size) = some sz) (h0 : 0 ≤ i) (h1 : i < n) (hp : p (.pointer (some (ad.add (i.toNat * sz)))) w) : o.wp P a w K Q := by
  refine opVal hK ?_ hp
  unfold execOp
  simp only [ho, hx, hi]
  cases hq : P.info? e with
  | none => simp [hq] at hsz
  | some inf =>
    have hs : inf.size = sz := by simpa [hq] using hsz
    simp [Instr.indexAt, asIntOf, run_underlying ht, sizeOf, typeInfo, hq, hs, h0, h1]
theorem opConvInt (hK : ∀ v w', p v w' → Ext None_ w w' → K (a.put o.dst v) w') {s d : TypeId} {x : Operand} (ho : o.op = .convert s d x) {k k' : IntKind} {n : Int} (hx : a.eval x = .int k n) (hs : (P.underlying s).isSome = true) (hd : P.underlying d = some (.int (P.intKind d))) (hk : P.intKind d = k') (hp : p (.int k' (k'.wrap n)) w) : o.wp P a w K Q := by
  subst hk
  exact opConv hK ho hx (run_convert_int (P := P) (w := w) s d k n hs hd) hp (Ext.refl _ _)
theorem opLen (hK : ∀ v w', p v w' → Ext None_ w w' → K (a.put o.dst v) w') {t : TypeId} {x : Operand} (ho : o.op = .call { callee := .builtin .len, args := #[x], argTypes := #[t] }) {A : Option Addr} {n c : Nat} (hx : a.eval x = .slice A n c) (ht : P.underlying t = some (.slice (P.elem t))) (hp : p (.int .i64 n) w) : o.wp P a w K Q := by
  refine opVal hK ?_ hp
  unfold execOp
  simp only [ho]
  have e : ∀ (ats : Array TypeId) (ty : TypeId) (cs : Array Bool) (args : Array Value), builtin .len ats ty cs args = (do pure (.value (← Builtin.len_ ats ty args))) := fun _ _ _ _ => rfl
  simp [resolve, invoke, hx, e, run_len_slice (P := P) (w := w) t _ A n c ht, goInt]
theorem binShl32 (t : TypeId) (n m : Int) (yk : IntKind) (w : World) (h0 : 0 ≤ m) (h1 : m ≤ 32) : (binOp .shl t (.int .u32 n) (.int yk m)).run P w = .ok (.int .u32 (IntKind.u32.wrap (n * 2 ^ m.toNat))) w := by
  rw [binOp_shl, shift_shl .u32 yk n m h0 h1]
  rfl
theorem binOr32 (t : TypeId) (x y : Int) (w : World) : (binOp .or t (.int .u32 x) (.int .u32 y)).run P w = .ok (.int .u32 (Go.bits .or .u32 x y)) w := by
  simp [binOp, go_sem]
theorem binAdd (t : TypeId) (x y : Int) (w : World) (h : IntKind.i64.wrap (x + y) = x + y) : (binOp .add t (.int .i64 x) (.int .i64 y)).run P w = .ok (.int .i64 (x + y)) w := by
  conv => rhs; rw [← h]
  simp [binOp, go_sem]
theorem binSub (t : TypeId) (x y : Int) (w : World) (h : IntKind.i64.wrap (x - y) = x - y) : (binOp .sub t (.int .i64 x) (.int .i64 y)).run P w = .ok (.int .i64 (x - y)) w := by
  conv => rhs; rw [← h]
  simp [binOp, go_sem]
theorem binLt (t : TypeId) (k : IntKind) (x y : Int) (w : World) : (binOp .lss t (.int k x) (.int k y)).run P w = .ok (.bool (decide (x < y))) w := by simp [binOp, Op.intCmp]
theorem binGt (t : TypeId) (k : IntKind) (x y : Int) (w : World) : (binOp .gtr t (.int k x) (.int k y)).run P w = .ok (.bool (decide (x > y))) w := by simp [binOp, Op.intCmp]
theorem binLe (t : TypeId) (k : IntKind) (x y : Int) (w : World) : (binOp .leq t (.int k x) (.int k y)).run P w = .ok (.bool (decide (x ≤ y))) w := by simp [binOp, Op.intCmp]
theorem binGe (t : TypeId) (k : IntKind) (x y : Int) (w : World) : (binOp .geq t (.int k x) (.int k y)).run P w = .ok (.bool (decide (x ≥ y))) w := by simp [binOp, Op.intCmp]
end
end Go.Proofs.Ytghkgfeamijefaa.B
