/- Rows of bytes and of numbers that come in as arguments, their room bounded by what any machine holds. -/
import Derived.Test.YtghkgfeamijefaaOpen
set_option linter.unusedVariables false
set_option linter.unusedSimpArgs false
namespace Go.Proofs.Ytghkgfeamijefaa
open Go Go.RowKit Go.ChangeShapes Go.WideShapes B
section
variable {H : Type} {enc : TypeId × Value → H} {P : Program} {W : World} {t e : TypeId} {d : DataW H} {ps : List MemPlace} {ts : List TypeId} {ds : List (DataW H)}
theorem open_row_said {k : IntKind} {bs : Nat} {a : Option Addr} {len cap : Nat} (ht : P.underlying t = some (.slice e)) (he : P.underlying e = some (.int k)) (hc : P.cellsOf e = 1) (hb : P.bytesOf e = bs)
    (hsz : (DataW.weightsEach P ts ds).all (· ≤ reachBytes) = true) {j : Nat} (hj : ts[j]? = some t) (hd : ds[j]? = some d) (h : DataW.Trod enc P W 0 (fun _ => true) true t (.slice a len cap) d ps) :
    ∃ l : List Int, len = l.length ∧ Row W a (l.map (Value.int k)) ∧ l.length ≤ cap ∧ cap * bs ≤ 140737488351232 ∧ ∀ n ∈ l, (Lit.int k n).wf = true := by
  obtain ⟨fuel, hf⟩ := h
  rcases open_ints ht he hc hf with ⟨hcs, _⟩ | ⟨x, l, c, zs, hcs, _, hl, hm, hz, hx, hcell, hwz⟩
  · simp [Value.cells] at hcs
    obtain ⟨rfl, rfl, rfl⟩ := hcs
    exact ⟨[], rfl, Row.nil _ _, by simp, by simp, by simp⟩
  · simp [Value.cells] at hcs
    obtain ⟨rfl, rfl, rfl⟩ := hcs
    have hxd := congrArg Prod.fst hx
    simp only at hxd
    subst hxd
    have hzc : zs.length = cap := by simpa using hz
    have hw := sized_slice hsz hj hd ht
    rw [hb] at hw
    simp only [lits, List.length_map, List.length_take, List.length_drop] at hw
    rw [show min len zs.length + (zs.length - len) = cap by omega] at hw
    have hr : reachBytes = 140737488351232 := rfl
    rw [hr] at hw
    have hlen : (zs.take len).length = len := by rw [List.length_take]; omega
    refine ⟨zs.take len, hlen.symm, fun i v hi => ⟨x, rfl, ?_⟩, by omega, hw, fun n hn => hwz n (List.mem_of_mem_take hn)⟩
    have hi2 : i < (zs.take len).length := by
      rcases Nat.lt_or_ge i (zs.take len).length with h | h
      · exact h
      · rw [List.getElem?_eq_none (by rw [List.length_map]; exact h)] at hi
        cases hi
    rw [List.getElem?_map, List.getElem?_eq_getElem hi2] at hi
    simp only [Option.map_some, Option.some.injEq] at hi
    rw [hcell i (by rw [List.length_take] at hi2; omega), ← hi, List.getElem_take]
    simp [List.getD_eq_getElem?_getD, List.getElem?_eq_getElem (show i < zs.length by rw [List.length_take] at hi2; omega)]
end
theorem open_row_u8_said {H : Type} {enc : TypeId × Value → H} {W : World} {d : DataW H} {ps : List MemPlace} {ts : List TypeId} {ds : List (DataW H)} {a : Option Addr} {len cap : Nat}
    (hsz : (DataW.weightsEach Try.prog ts ds).all (· ≤ reachBytes) = true) {j : Nat} (hj : ts[j]? = some 22) (hd : ds[j]? = some d) (h : DataW.Trod enc Try.prog W 0 (fun _ => true) true 22 (.slice a len cap) d ps) :
    ∃ l : List Int, len = l.length ∧ Row W a (l.map (Value.int .u8)) ∧ l.length ≤ cap ∧ cap ≤ 140737488351232 ∧ Byt l := by
  obtain ⟨l, h1, h2, h3, h4, h5⟩ := open_row_said Try.underlying22 Try.underlying5 (by kernel_rfl) (by kernel_rfl : Try.prog.bytesOf 5 = 1) hsz hj hd h
  exact ⟨l, h1, h2, h3, by omega, byt_of h5⟩
end Go.Proofs.Ytghkgfeamijefaa
