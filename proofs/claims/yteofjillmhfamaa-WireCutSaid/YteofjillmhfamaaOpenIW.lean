/- An argument of type Item, opened by its weights; WireCut, as the row asks for it. -/
import Derived.Test.YteofjillmhfamaaWCut
set_option linter.unusedVariables false
set_option linter.unusedSimpArgs false
namespace Go.Proofs.Yteofjillmhfamaa
open Go Go.RowKit Go.ChangeShapes Go.WideShapes B
def structOfM (P : Program) (t : TypeId) : Option (List (Nat × TypeId)) := match P.underlying t with | some (.struct fs) => some (fs.toList.map fun f => (f.offset, f.type)) | _ => none
/-- Nothing in it is greater than any machine holds. -/
def SzM {H : Type} (P : Program) (t : TypeId) (d : DataW H) : Prop := ∀ n ∈ d.weights P t, n ≤ reachBytes
section
variable {H : Type} {enc : TypeId × Value → H} {P : Program} {W : World} {t : TypeId} {cs : List Value} {d : DataW H} {ps : List MemPlace} {fuel : Nat}
theorem tr_structM {l : List (Nat × TypeId)} (hs : structOfM P t = some l) (h : Tr enc P W fuel t cs d ps) :
    ∃ (xs : List (DataW H × List MemPlace)) (n : Nat), fuel = n + 1 ∧ d = .agg (xs.map (·.1)) ∧ cs.length = P.cellsOf t ∧ xs.length = l.length ∧ (∀ (i o : Nat) (ty : TypeId), l[i]? = some (o, ty) → DataW.trod enc P W 0 (fun _ => true) true n ty ((cs.drop o).take (P.cellsOf ty)) = xs[i]?) ∧ (SzM P t d → ∀ (i o : Nat) (ty : TypeId) (x : DataW H × List MemPlace), l[i]? = some (o, ty) → xs[i]? = some x → SzM P ty x.1) := by
  unfold structOfM at hs
  split at hs
  · next fs hu =>
    injection hs with hs
    subst hs
    obtain ⟨xs, n, hf, hx, hl, hn, hget⟩ := DataW.trod_struct hu h
    have hd := (Prod.mk.inj hx).1
    have hg2 : ∀ (i o : Nat) (ty : TypeId), (fs.toList.map fun f => (f.offset, f.type))[i]? = some (o, ty) → ∃ f, fs.toList[i]? = some f ∧ f.offset = o ∧ f.type = ty := by
      intro i o ty hi
      rw [List.getElem?_map] at hi
      cases hg : fs.toList[i]? with
      | none => rw [hg] at hi; cases hi
      | some f =>
        rw [hg] at hi
        simp only [Option.map_some, Option.some.injEq, Prod.mk.injEq] at hi
        exact ⟨f, rfl, hi.1, hi.2⟩
    refine ⟨xs, n, hf, hd, hl, by simpa using hn, fun i o ty hi => ?_, fun hz i o ty x hi hx' => ?_⟩
    · obtain ⟨f, hg, rfl, rfl⟩ := hg2 i o ty hi
      exact hget i f (by rw [← Array.getElem?_toList]; exact hg)
    · obtain ⟨f, hg, rfl, rfl⟩ := hg2 i o ty hi
      intro m hm
      refine hz m ?_
      rw [hd]
      simp only [DataW.weights, hu]
      exact DataW.weights_mem_each (j := i) (by rw [List.getElem?_map, hg]; rfl) (by rw [List.getElem?_map, hx']; rfl) m hm
  · cases hs
theorem szm_all {e : TypeId} : ∀ {l : List (DataW H)} {d : DataW H}, d ∈ l → (∀ n ∈ DataW.weightsAll P e l, n ≤ reachBytes) → SzM P e d
  | [], d, h, _ => by simp at h
  | x :: r, d, h, hz => by
    simp only [DataW.weightsAll, List.mem_append] at hz
    rcases List.mem_cons.1 h with rfl | h
    · exact fun n hn => hz n (.inl hn)
    · exact szm_all h (fun n hn => hz n (.inr hn))
/-- A slice's elements, where they lie. -/
def ElsAt {α : Type} (n : Nat) (cells : α → List Value) (ok : α → Prop) (W : World) (a : Option Addr) (l : List α) : Prop := ∀ i q, l[i]? = some q → ∃ ad, a = some ad ∧ (∀ j v, (cells q)[j]? = some v → W.cell? ((ad.add (i * n)).add j) = some v) ∧ ok q
theorem open_els {α : Type} {e : TypeId} {n by_ : Nat} (cells : α → List Value) (ok : α → Prop) (hcn : P.cellsOf e = n) (hby : P.bytesOf e = by_) (hu : P.underlying t = some (.slice e)) {a : Option Addr} {len cap : Nat}
    (hel : ∀ cs d ps fuel, SzM P e d → Tr enc P W fuel e cs d ps → ∃ q : α, cs = cells q ∧ ok q) (hz : SzM P t d) (h : Tr enc P W fuel t [.slice a len cap] d ps) :
    ∃ l : List α, len = l.length ∧ ElsAt n cells ok W a l ∧ l.length * by_ ≤ 140737488351232 := by
  rcases Go.Deep.open_slice (e := e) hu h with ⟨hcs, _⟩ | ⟨ad, len', cap', m, n', D, Pl, hcs, _, hl, hm, hmm, hx, hel2⟩
  · simp at hcs
    obtain ⟨rfl, rfl, rfl⟩ := hcs
    exact ⟨[], rfl, fun i q hi => by simp at hi, by simp⟩
  · simp at hcs
    obtain ⟨rfl, rfl, rfl⟩ := hcs
    simp only [if_true] at hmm
    subst hmm
    have hxd := congrArg Prod.fst hx
    simp only at hxd
    rw [hxd] at hz
    unfold SzM at hz
    simp only [DataW.weights, hu, List.mem_cons, List.mem_append] at hz
    have hw := hz _ (.inl rfl)
    simp only [List.length_map, List.length_range, hby] at hw
    rw [show reachBytes = 140737488351232 from rfl] at hw
    have hza : ∀ i, i < len → SzM P e (D i) := fun i hi => szm_all (l := (List.range len).map D) (List.mem_map.2 ⟨i, List.mem_range.2 hi, rfl⟩) (fun n hn => hz n (.inr (.inl hn)))
    have hel3 : ∀ i, i < len → ∃ q : α, (∀ j v, (cells q)[j]? = some v → W.cell? ((ad.add (i * n)).add j) = some v) ∧ ok q := by
      intro i hi
      obtain ⟨cs', h1, h2⟩ := hel2 i (by omega)
      rw [hcn] at h1
      obtain ⟨q, rfl, hok⟩ := hel _ _ _ _ (hza i hi) h2
      refine ⟨q, fun j v hj => ?_, hok⟩
      obtain ⟨_, hlen, hc⟩ := World.cells?_some h1
      rw [← hj]
      exact hc j (by have := (List.getElem?_eq_some_iff.1 hj).1; omega)
    rcases Nat.eq_zero_or_pos len with rfl | hpos
    · exact ⟨[], rfl, fun i q hi => by simp at hi, by simp⟩
    · obtain ⟨q0, _⟩ := hel3 0 hpos
      have : Inhabited α := ⟨q0⟩
      obtain ⟨f, hf2⟩ := Go.Deep.choose_lt hel3
      refine ⟨(List.range len).map f, by simp, fun i q hi => ?_, by simp; exact Nat.le_trans (Nat.mul_le_mul_right _ (by omega)) hw⟩
      rw [List.getElem?_map] at hi
      by_cases hi2 : i < len
      · rw [List.getElem?_range hi2] at hi
        simp only [Option.map_some, Option.some.injEq] at hi
        subst hi
        exact ⟨ad, rfl, hf2 i hi2⟩
      · rw [List.getElem?_eq_none (by simpa using hi2)] at hi
        cases hi
end
structure ItA where
  x : Item
  A : Option Addr
  c : Nat
def ItA.val (x : ItA) : Value := .agg #[.int .i64 x.x.kind, .int .i64 x.x.n, .int .i64 x.x.most, .slice x.A x.x.l.length x.c, .string x.x.s, .bool x.x.f]
def ItA.ok (W : World) (x : ItA) : Prop := ItOk W x.x x.A x.c
section
variable {H : Type} {enc : TypeId × Value → H} {W : World} {cs : List Value} {d : DataW H} {ps : List MemPlace} {fuel : Nat}
theorem open_itemW0 (hz : SzM Try.prog 37 d) (h : Tr enc Try.prog W fuel 37 cs d ps) :
    ∃ (x : Item) (A : Option Addr) (c : Nat), cs = [.int .i64 x.kind, .int .i64 x.n, .int .i64 x.most, .slice A x.l.length c, .string x.s, .bool x.f] ∧ ItOk W x A c := by
  obtain ⟨xs, n, rfl, rfl, hl, hn, hget, hsz⟩ := tr_structM (l := [(0, 3), (1, 3), (2, 3), (3, 35), (4, 9), (5, 4)]) (by kernel_rfl) h
  replace hsz := hsz hz
  obtain ⟨v0, v1, v2, v3, v4, v5, rfl⟩ := six (hl.trans (by kernel_rfl))
  obtain ⟨x0, x1, x2, x3, x4, x5, rfl⟩ := six hn
  have g0 := hget 0 _ _ rfl
  have g1 := hget 1 _ _ rfl
  have g2 := hget 2 _ _ rfl
  have g3 := hget 3 _ _ rfl
  have g4 := hget 4 _ _ rfl
  have g5 := hget 5 _ _ rfl
  have z3 := hsz 3 _ _ x3 rfl rfl
  have z4 := hsz 4 _ _ x4 rfl rfl
  have c1 : Try.prog.cellsOf 3 = 1 := by kernel_rfl
  have c3 : Try.prog.cellsOf 35 = 1 := by kernel_rfl
  have c4 : Try.prog.cellsOf 9 = 1 := by kernel_rfl
  have c5 : Try.prog.cellsOf 4 = 1 := by kernel_rfl
  rw [c1] at g0 g1 g2
  rw [c3] at g3
  rw [c4] at g4
  rw [c5] at g5
  simp only [List.drop, List.take, List.getElem?_cons_zero, List.getElem?_cons_succ] at g0 g1 g2 g3 g4 g5
  obtain ⟨n0, e0, _, _⟩ := tr_int (k := .i64) (d := x0.1) (ps := x0.2) (by kernel_rfl) g0
  obtain ⟨n1, e1, w1, _⟩ := tr_int (k := .i64) (d := x1.1) (ps := x1.2) (by kernel_rfl) g1
  obtain ⟨n2, e2, _, _⟩ := tr_int (k := .i64) (d := x2.1) (ps := x2.2) (by kernel_rfl) g2
  obtain ⟨s, e4, hs, d4⟩ := tr_string (d := x4.1) (ps := x4.2) (by kernel_rfl) g4
  obtain ⟨b, e5, _⟩ := tr_bool (d := x5.1) (ps := x5.2) (by kernel_rfl) g5
  obtain ⟨A, len, c, e3⟩ : ∃ A len c, v3 = .slice A len c := by
    rcases DataW.trod_slice (e := 3) (by kernel_rfl) g3 with ⟨q, _⟩ | ⟨a, len, cap, _, _, _, _, q, _⟩
    · exact ⟨_, _, _, by simpa using q⟩
    · exact ⟨_, _, _, by simpa using q⟩
  subst e3
  obtain ⟨l', hl', _, hb'⟩ := open_els (e := 3) (n := 1) (by_ := 8) (fun x : Int => [Value.int .i64 x]) (fun _ => True) (by kernel_rfl) (by kernel_rfl) (by kernel_rfl) (fun cs d ps fuel _ h => by
    obtain ⟨q, e, _, _⟩ := tr_int (t := 3) (k := .i64) (by kernel_rfl) h
    exact ⟨q, e, trivial⟩) z3 g3
  obtain ⟨l, rfl, hr, hc, hm, hw⟩ := open_row (e := 3) (a := A) (len := len) (cap := c) (k := .i64) (by kernel_rfl) (by kernel_rfl) (by kernel_rfl) ⟨n, g3⟩
  simp only [List.cons.injEq, and_true] at e0 e1 e2 e4 e5
  subst e0 e1 e2 e4 e5
  refine ⟨⟨n0, n1, n2, l, s, b⟩, A, c, rfl, hr, fun k hk => i64_of (hw k hk), i64_of w1, (show l.length ≤ 17592186043904 by omega), hc, ?_⟩
  have h4 : s.data.toList.length ≤ reachBytes := z4 _ (by rw [d4]; simp [DataW.weights])
  rw [Array.length_toList, show reachBytes = 140737488351232 from rfl] at h4
  exact h4
end
set_option maxRecDepth 100000 in
theorem open_itemA_said {H : Type} {enc : TypeId × Value → H} {W : World} {v : Value} {d : DataW H} {ps : List MemPlace} {ts : List TypeId} {ds : List (DataW H)} {base : Nat} (hsz : (DataW.weightsEach Try.prog ts ds).all (· ≤ reachBytes) = true) {j : Nat} (hj : ts[j]? = some 37) (hd : ds[j]? = some d)
    (hv : Value.okWide Try.prog W .any base 37 v) (h : DataW.Trod enc Try.prog W 0 (fun _ => true) true 37 v d ps) : ∃ x : ItA, v = x.val ∧ x.ok W := by
  obtain ⟨cs, rfl, _⟩ := okWide_struct Try.underlying37 hv
  obtain ⟨fuel, hf⟩ := h
  obtain ⟨x, A, c, e, hk⟩ := open_itemW0 (fun n hn => by
    rw [List.all_eq_true] at hsz
    have := hsz n (DataW.weights_mem_each hj hd n hn)
    simpa using this) hf
  refine ⟨⟨x, A, c⟩, ?_, hk⟩
  unfold ItA.val
  congr 1
  exact Array.ext' e
theorem wireCut_row {w : World} (x : ItA) (hx : x.ok w) (n : Int) (hn : (Lit.int .i64 n).wf = true) :
    Calls Try.prog 8 #[x.val, .int .i64 n] w fun e w' => e = .returned (.bool true) ∧ Ext None_ w w' :=
  wireCut_any x.x x.A x.c n hx (i64_of hn)
end Go.Proofs.Yteofjillmhfamaa
