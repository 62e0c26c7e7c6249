/- Structs written into a kept row. -/
import Derived.Test.YthjabbheobpoeaaRn
import Derived.Deep.MidRow
set_option linter.unusedVariables false
set_option linter.unusedSimpArgs false
namespace Go.Proofs.Ythjabbheobpoeaa
open Go.RowKit B
theorem ext_setCells {S : Nat → Prop} {b : Nat} (hS : S b) : ∀ (vs : List Value) (w : World) (o : Nat), Ext S w (w.setCells b o vs)
  | [], w, o => Ext.refl _ _
  | v :: vs, w, o => by
    unfold World.setCells
    exact ((Ext.refl S w).setCell (p := ⟨b, o, none⟩) (Or.inl hS) v).trans (ext_setCells hS vs _ _) (fun _ _ e => e)
theorem blk_setCells {b : Nat} {t : TypeId} : ∀ (vs : List Value) (w : World) (o : Nat) (cs : Array Value), Blk w b cs t → ∃ cs' : Array Value, Blk (w.setCells b o vs) b cs' t ∧ cs'.size = cs.size
  | [], w, o, cs, h => ⟨cs, h, rfl⟩
  | v :: vs, w, o, cs, h => by
    unfold World.setCells
    obtain ⟨cs', h1, h2⟩ := blk_setCells vs _ (o + 1) _ (h.set o v)
    exact ⟨cs', h1, by rw [h2]; simp⟩
theorem blk_there {w : World} {b : Nat} {cs : Array Value} {t : TypeId} (h : Blk w b cs t) (o n : Nat) (hn : o + n ≤ cs.size) : w.there b o n := fun j hj => ⟨by rw [h.cell, Array.getElem?_eq_getElem (by omega)]; rfl, h.frozen _⟩
end Go.Proofs.Ythjabbheobpoeaa
