/- An argument of type []Item, opened for the row. -/
import Derived.Test.YtmobdofkiddfhaaItems
set_option linter.unusedVariables false
set_option linter.unusedSimpArgs false
namespace Go.Proofs.Ytmobdofkiddfhaa
open Go Go.RowKit Go.ChangeShapes Go.WideShapes B
structure ItsA where
  its : List (Item × Option Addr × Nat)
  a : Option Addr
  cap : Nat
def ItsA.val (x : ItsA) : Value := .slice x.a x.its.length x.cap
set_option maxRecDepth 100000 in
theorem open_itsA {H : Type} {enc : TypeId × Value → H} {W : World} {base : Nat} {v : Value} {d : DataW H} {ps : List MemPlace} (hv : Value.okWide Try.prog W .any base 31 v) (h : DataW.Trod enc Try.prog W 0 (fun _ => true) true 31 v d ps) :
    ∃ x : ItsA, v = x.val ∧ (Rows.uptoBulk d ≤ 1048576 → Its W x.a x.its ∧ x.its.length ≤ x.cap ∧ x.cap ≤ 1048576) := by
  obtain ⟨a, len, cap, rfl⟩ := okWide_slice Try.underlying31 hv
  by_cases hb : Rows.uptoBulk d ≤ 1048576
  · obtain ⟨its, rfl, h1, h2, h3⟩ := open_items hb h
    exact ⟨⟨its, a, cap⟩, rfl, fun _ => ⟨h1, h2, h3⟩⟩
  · exact ⟨⟨List.replicate len (⟨0, 0, 0, [], ByteArray.empty, false⟩, none, 0), a, cap⟩, by simp [ItsA.val], fun h => absurd h hb⟩
structure ItA where
  x : Item
  A : Option Addr
  c : Nat
def ItA.val (x : ItA) : Value := .agg #[.int .i64 x.x.kind, .int .i64 x.x.n, .int .i64 x.x.most, .slice x.A x.x.l.length x.c, .string x.x.s, .bool x.x.f]
set_option maxRecDepth 100000 in
theorem open_itemA {H : Type} {enc : TypeId × Value → H} {W : World} {base : Nat} {v : Value} {d : DataW H} {ps : List MemPlace} (hv : Value.okWide Try.prog W .any base 37 v) (h : DataW.Trod enc Try.prog W 0 (fun _ => true) true 37 v d ps) :
    ∃ x : ItA, v = x.val ∧ (Rows.uptoBulk d ≤ 1048576 → ItOk W x.x x.A x.c) := by
  obtain ⟨cs, rfl, _⟩ := okWide_struct Try.underlying37 hv
  obtain ⟨fuel, hf⟩ := h
  obtain ⟨x, A, c, e, hk⟩ := open_item0 hf
  refine ⟨⟨x, A, c⟩, ?_, hk⟩
  unfold ItA.val
  congr 1
  exact Array.ext' e
end Go.Proofs.Ytmobdofkiddfhaa
