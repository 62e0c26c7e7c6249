/- What an argument of type []draylaw26.Ask reads as: whole, with its messages and their entries. -/
import Derived.Test.YthjabbheobpoeaaRl
import Derived.Test.YthjabbheobpoeaaOpen
import Derived.Deep.Slices
set_option linter.unusedVariables false
set_option linter.unusedSimpArgs false
namespace Go.Proofs.Ythjabbheobpoeaa
open Go Go.RowKit Go.ChangeShapes Go.WideShapes B
def structOfM (P : Program) (t : TypeId) : Option (List (Nat × TypeId)) := match P.underlying t with | some (.struct fs) => some (fs.toList.map fun f => (f.offset, f.type)) | _ => none
/-- Nothing in it is greater than any machine holds. -/
def SzM {H : Type} (P : Program) (t : TypeId) (d : DataW H) : Prop := ∀ n ∈ d.weights P t, n ≤ reachBytes
section
variable {H : Type} {enc : TypeId × Value → H} {P : Program} {W : World} {t : TypeId} {cs : List Value} {d : DataW H} {ps : List MemPlace} {fuel : Nat}
theorem tr_structM {l : List (Nat × TypeId)} (hs : structOfM P t = some l) (h : Tr enc P W fuel t cs d ps) :
    ∃ (xs : List (DataW H × List MemPlace)) (n : Nat), fuel = n + 1 ∧ d = .agg (xs.map (·.1)) ∧ cs.length = P.cellsOf t ∧ xs.length = l.length ∧ (∀ (i o : Nat) (ty : TypeId), l[i]? = some (o, ty) → DataW.trod enc P W 0 (fun _ => true) true n ty ((cs.drop o).take (P.cellsOf ty)) = xs[i]?) ∧ (SzM P t d → ∀ (i o : Nat) (ty : TypeId) (x : DataW H × List MemPlace), l[i]? = some (o, ty) → xs[i]? = some x → SzM P ty x.1) := by
  unfold structOfM at hs
  split at hs
  · next fs hu =>
    injection hs with hs
    subst hs
    obtain ⟨xs, n, hf, hx, hl, hn, hget⟩ := DataW.trod_struct hu h
    have hd := (Prod.mk.inj hx).1
    have hg2 : ∀ (i o : Nat) (ty : TypeId), (fs.toList.map fun f => (f.offset, f.type))[i]? = some (o, ty) → ∃ f, fs.toList[i]? = some f ∧ f.offset = o ∧ f.type = ty := by
      intro i o ty hi
      rw [List.getElem?_map] at hi
      cases hg : fs.toList[i]? with
      | none => rw [hg] at hi; cases hi
      | some f =>
        rw [hg] at hi
        simp only [Option.map_some, Option.some.injEq, Prod.mk.injEq] at hi
        exact ⟨f, rfl, hi.1, hi.2⟩
    refine ⟨xs, n, hf, hd, hl, by simpa using hn, fun i o ty hi => ?_, fun hz i o ty x hi hx' => ?_⟩
    · obtain ⟨f, hg, rfl, rfl⟩ := hg2 i o ty hi
      exact hget i f (by rw [← Array.getElem?_toList]; exact hg)
    · obtain ⟨f, hg, rfl, rfl⟩ := hg2 i o ty hi
      intro m hm
      refine hz m ?_
      rw [hd]
      simp only [DataW.weights, hu]
      exact DataW.weights_mem_each (j := i) (by rw [List.getElem?_map, hg]; rfl) (by rw [List.getElem?_map, hx']; rfl) m hm
  · cases hs
theorem szm_all {e : TypeId} : ∀ {l : List (DataW H)} {d : DataW H}, d ∈ l → (∀ n ∈ DataW.weightsAll P e l, n ≤ reachBytes) → SzM P e d
  | [], d, h, _ => by simp at h
  | x :: r, d, h, hz => by
    simp only [DataW.weightsAll, List.mem_append] at hz
    rcases List.mem_cons.1 h with rfl | h
    · exact fun n hn => hz n (.inl hn)
    · exact szm_all h (fun n hn => hz n (.inr hn))
/-- A slice's elements, where they lie. -/
def ElsAt {α : Type} (n : Nat) (cells : α → List Value) (ok : α → Prop) (W : World) (a : Option Addr) (l : List α) : Prop := ∀ i q, l[i]? = some q → ∃ ad, a = some ad ∧ (∀ j v, (cells q)[j]? = some v → W.cell? ((ad.add (i * n)).add j) = some v) ∧ ok q
theorem open_els {α : Type} {e : TypeId} {n by_ : Nat} (cells : α → List Value) (ok : α → Prop) (hcn : P.cellsOf e = n) (hby : P.bytesOf e = by_) (hu : P.underlying t = some (.slice e)) {a : Option Addr} {len cap : Nat}
    (hel : ∀ cs d ps fuel, SzM P e d → Tr enc P W fuel e cs d ps → ∃ q : α, cs = cells q ∧ ok q) (hz : SzM P t d) (h : Tr enc P W fuel t [.slice a len cap] d ps) :
    ∃ l : List α, len = l.length ∧ ElsAt n cells ok W a l ∧ l.length * by_ ≤ 140737488351232 := by
  rcases Go.Deep.open_slice (e := e) hu h with ⟨hcs, _⟩ | ⟨ad, len', cap', m, n', D, Pl, hcs, _, hl, hm, hmm, hx, hel2⟩
  · simp at hcs
    obtain ⟨rfl, rfl, rfl⟩ := hcs
    exact ⟨[], rfl, fun i q hi => by simp at hi, by simp⟩
  · simp at hcs
    obtain ⟨rfl, rfl, rfl⟩ := hcs
    simp only [if_true] at hmm
    subst hmm
    have hxd := congrArg Prod.fst hx
    simp only at hxd
    rw [hxd] at hz
    unfold SzM at hz
    simp only [DataW.weights, hu, List.mem_cons, List.mem_append] at hz
    have hw := hz _ (.inl rfl)
    simp only [List.length_map, List.length_range, hby] at hw
    rw [show reachBytes = 140737488351232 from rfl] at hw
    have hza : ∀ i, i < len → SzM P e (D i) := fun i hi => szm_all (l := (List.range len).map D) (List.mem_map.2 ⟨i, List.mem_range.2 hi, rfl⟩) (fun n hn => hz n (.inr (.inl hn)))
    have hel3 : ∀ i, i < len → ∃ q : α, (∀ j v, (cells q)[j]? = some v → W.cell? ((ad.add (i * n)).add j) = some v) ∧ ok q := by
      intro i hi
      obtain ⟨cs', h1, h2⟩ := hel2 i (by omega)
      rw [hcn] at h1
      obtain ⟨q, rfl, hok⟩ := hel _ _ _ _ (hza i hi) h2
      refine ⟨q, fun j v hj => ?_, hok⟩
      obtain ⟨_, hlen, hc⟩ := World.cells?_some h1
      rw [← hj]
      exact hc j (by have := (List.getElem?_eq_some_iff.1 hj).1; omega)
    rcases Nat.eq_zero_or_pos len with rfl | hpos
    · exact ⟨[], rfl, fun i q hi => by simp at hi, by simp⟩
    · obtain ⟨q0, _⟩ := hel3 0 hpos
      have : Inhabited α := ⟨q0⟩
      obtain ⟨f, hf2⟩ := Go.Deep.choose_lt hel3
      refine ⟨(List.range len).map f, by simp, fun i q hi => ?_, by simp; exact Nat.le_trans (Nat.mul_le_mul_right _ (by omega)) hw⟩
      rw [List.getElem?_map] at hi
      by_cases hi2 : i < len
      · rw [List.getElem?_range hi2] at hi
        simp only [Option.map_some, Option.some.injEq] at hi
        subst hi
        exact ⟨ad, rfl, hf2 i hi2⟩
      · rw [List.getElem?_eq_none (by simpa using hi2)] at hi
        cases hi
end
/-- The row of two-cell elements, out of its elements. -/
theorem row_of_els {α : Type} {f : α → List Value} (hf : ∀ x, (f x).length = 2) {ok : α → Prop} {w : World} {a : Option Addr} {l : List α} (h : ElsAt 2 f ok w a l) : Row w a (l.flatMap f) := fun k v hk => by
  have hg : ∃ i x j, l[i]? = some x ∧ (f x)[j]? = some v ∧ k = i * 2 + j := by
    clear h
    induction l generalizing k with
    | nil => simp at hk
    | cons y r ih =>
      rw [List.flatMap_cons] at hk
      by_cases h2 : k < 2
      · rw [List.getElem?_append_left (by rw [hf]; exact h2)] at hk
        exact ⟨0, y, k, rfl, hk, by omega⟩
      · rw [List.getElem?_append_right (by rw [hf]; omega), hf] at hk
        obtain ⟨i, x, j, h3, h4, h5⟩ := ih _ hk
        exact ⟨i + 1, x, j, by simpa using h3, h4, by omega⟩
  obtain ⟨i, x, j, h1, h2, rfl⟩ := hg
  obtain ⟨ad, e, hc, _⟩ := h i x h1
  exact ⟨ad, e, by rw [← add_add]; exact hc j v h2⟩
theorem two_of {α : Type} {l : List α} (h : l.length = 2) : ∃ a b, l = [a, b] := by
  match l, h with
  | [a, b], _ => exact ⟨a, b, rfl⟩
theorem five_of {α : Type} {l : List α} (h : l.length = 5) : ∃ a b c d e, l = [a, b, c, d, e] := by
  match l, h with
  | [a, b, c, d, e], _ => exact ⟨a, b, c, d, e, rfl⟩
theorem ten_of {α : Type} {l : List α} (h : l.length = 10) : ∃ a b c d e f g i j k, l = [a, b, c, d, e, f, g, i, j, k] := by
  match l, h with
  | [a, b, c, d, e, f, g, i, j, k], _ => exact ⟨a, b, c, d, e, f, g, i, j, k, rfl⟩
section
variable {H : Type} {enc : TypeId × Value → H} {W : World} {cs : List Value} {d : DataW H} {ps : List MemPlace} {fuel : Nat}
theorem open_entry (h : Tr enc Try.prog W fuel 72 cs d ps) : ∃ q : Int × ByteArray, cs = [.int .i64 q.1, .string q.2] ∧ True := by
  obtain ⟨xs, n, rfl, rfl, hl, hn, hget, hsz⟩ := tr_structM (l := [(0, 3), (1, 9)]) (by kernel_rfl) h
  obtain ⟨v0, v1, rfl⟩ := two_of (hl.trans (by kernel_rfl))
  obtain ⟨x0, x1, rfl⟩ := two_of hn
  have g0 := hget 0 _ _ rfl
  have g1 := hget 1 _ _ rfl
  have c1 : Try.prog.cellsOf 3 = 1 := by kernel_rfl
  have c2 : Try.prog.cellsOf 9 = 1 := by kernel_rfl
  rw [c1] at g0
  rw [c2] at g1
  simp only [List.drop, List.take, List.getElem?_cons_zero, List.getElem?_cons_succ] at g0 g1
  obtain ⟨n0, e0, w0, _⟩ := tr_int (k := .i64) (d := x0.1) (ps := x0.2) (by kernel_rfl) g0
  obtain ⟨n1, e1, w1, _⟩ := tr_string (d := x1.1) (ps := x1.2) (by kernel_rfl) g1
  simp only [List.cons.injEq, and_true] at e0 e1
  subst e0 e1
  exact ⟨(n0, n1), rfl, trivial⟩
/-- A message handed in. -/
abbrev MsgX := Msg × Option Addr × Nat
def MsgX.ok (W : World) (x : MsgX) : Prop := Row W x.2.1 (entV x.1.es) ∧ x.1.es.length ≤ 5864062014805 ∧ I64 x.1.f ∧ I64 x.1.t
theorem open_msg (hz : SzM Try.prog 28 d) (h : Tr enc Try.prog W fuel 28 cs d ps) : ∃ x : MsgX, cs = (msgC x.1 x.2.1 x.2.2).toList ∧ x.ok W := by
  obtain ⟨xs, n, rfl, rfl, hl, hn, hget, hsz⟩ := tr_structM (l := [(0, 3), (1, 3), (2, 3), (3, 3), (4, 3), (5, 3), (6, 3), (7, 4), (8, 26), (9, 9)]) (by kernel_rfl) h
  replace hsz := hsz hz
  obtain ⟨v0, v1, v2, v3, v4, v5, v6, v7, v8, v9, rfl⟩ := ten_of (hl.trans (by kernel_rfl))
  obtain ⟨x0, x1, x2, x3, x4, x5, x6, x7, x8, x9, rfl⟩ := ten_of hn
  have g0 := hget 0 _ _ rfl
  have g1 := hget 1 _ _ rfl
  have g2 := hget 2 _ _ rfl
  have g3 := hget 3 _ _ rfl
  have g4 := hget 4 _ _ rfl
  have g5 := hget 5 _ _ rfl
  have g6 := hget 6 _ _ rfl
  have g7 := hget 7 _ _ rfl
  have g8 := hget 8 _ _ rfl
  have g9 := hget 9 _ _ rfl
  have z8 := hsz 8 _ _ x8 rfl rfl
  have c1 : Try.prog.cellsOf 3 = 1 := by kernel_rfl
  have c2 : Try.prog.cellsOf 9 = 1 := by kernel_rfl
  have c3 : Try.prog.cellsOf 4 = 1 := by kernel_rfl
  have c4 : Try.prog.cellsOf 26 = 1 := by kernel_rfl
  rw [c1] at g0 g1 g2 g3 g4 g5 g6
  rw [c3] at g7
  rw [c4] at g8
  rw [c2] at g9
  simp only [List.drop, List.take, List.getElem?_cons_zero, List.getElem?_cons_succ] at g0 g1 g2 g3 g4 g5 g6 g7 g8 g9
  obtain ⟨n0, e0, w0, _⟩ := tr_int (k := .i64) (d := x0.1) (ps := x0.2) (by kernel_rfl) g0
  obtain ⟨n1, e1, w1, _⟩ := tr_int (k := .i64) (d := x1.1) (ps := x1.2) (by kernel_rfl) g1
  obtain ⟨n2, e2, w2, _⟩ := tr_int (k := .i64) (d := x2.1) (ps := x2.2) (by kernel_rfl) g2
  obtain ⟨n3, e3, w3, _⟩ := tr_int (k := .i64) (d := x3.1) (ps := x3.2) (by kernel_rfl) g3
  obtain ⟨n4, e4, w4, _⟩ := tr_int (k := .i64) (d := x4.1) (ps := x4.2) (by kernel_rfl) g4
  obtain ⟨n5, e5, w5, _⟩ := tr_int (k := .i64) (d := x5.1) (ps := x5.2) (by kernel_rfl) g5
  obtain ⟨n6, e6, w6, _⟩ := tr_int (k := .i64) (d := x6.1) (ps := x6.2) (by kernel_rfl) g6
  obtain ⟨b7, e7, _⟩ := tr_bool (d := x7.1) (ps := x7.2) (by kernel_rfl) g7
  obtain ⟨s9, e9, w9, _⟩ := tr_string (d := x9.1) (ps := x9.2) (by kernel_rfl) g9
  obtain ⟨A, len, c, e8⟩ : ∃ A len c, v8 = .slice A len c := by
    rcases DataW.trod_slice (e := 72) (by kernel_rfl) g8 with ⟨q, _⟩ | ⟨a, len, cap, _, _, _, _, q, _⟩
    · exact ⟨_, _, _, by simpa using q⟩
    · exact ⟨_, _, _, by simpa using q⟩
  subst e8
  obtain ⟨l, rfl, he, hb⟩ := open_els (n := 2) (by_ := 24) (fun q : Int × ByteArray => [Value.int .i64 q.1, Value.string q.2]) (fun _ => True) (by kernel_rfl) (by kernel_rfl) (by kernel_rfl) (fun cs d ps fuel _ h => open_entry h) z8 g8
  simp only [List.cons.injEq, and_true] at e0 e1 e2 e3 e4 e5 e6 e7 e9
  subst e0 e1 e2 e3 e4 e5 e6 e7 e9
  exact ⟨(⟨n0, n1, n2, n3, n4, n5, n6, b7, l, s9⟩, A, c), rfl, row_of_els (fun _ => rfl) he, (by show l.length ≤ 5864062014805; omega), i64_of w1, i64_of w2⟩
/-- An ask. -/
structure AskX where
  k : Int
  a : Int
  b : Int
  n : Int
  l : List MsgX
  A : Option Addr
  c : Nat
def AskX.cells (x : AskX) : List Value := [.int .i64 x.k, .int .i64 x.a, .int .i64 x.b, .int .i64 x.n, .slice x.A x.l.length x.c]
def AskX.ok (W : World) (x : AskX) : Prop := I64 x.k ∧ I64 x.a ∧ I64 x.b ∧ I64 x.n ∧ ElsAt 10 (fun q : MsgX => (msgC q.1 q.2.1 q.2.2).toList) (MsgX.ok W) W x.A x.l ∧ x.l.length ≤ 1353245080301
theorem open_askX (hz : SzM Try.prog 47 d) (h : Tr enc Try.prog W fuel 47 cs d ps) : ∃ x : AskX, cs = x.cells ∧ x.ok W := by
  obtain ⟨xs, n, rfl, rfl, hl, hn, hget, hsz⟩ := tr_structM (l := [(0, 3), (1, 3), (2, 3), (3, 3), (4, 45)]) (by kernel_rfl) h
  replace hsz := hsz hz
  obtain ⟨v0, v1, v2, v3, v4, rfl⟩ := five_of (hl.trans (by kernel_rfl))
  obtain ⟨x0, x1, x2, x3, x4, rfl⟩ := five_of hn
  have g0 := hget 0 _ _ rfl
  have g1 := hget 1 _ _ rfl
  have g2 := hget 2 _ _ rfl
  have g3 := hget 3 _ _ rfl
  have g4 := hget 4 _ _ rfl
  have z4 := hsz 4 _ _ x4 rfl rfl
  have c1 : Try.prog.cellsOf 3 = 1 := by kernel_rfl
  have c3 : Try.prog.cellsOf 45 = 1 := by kernel_rfl
  rw [c1] at g0 g1 g2 g3
  rw [c3] at g4
  simp only [List.drop, List.take, List.getElem?_cons_zero, List.getElem?_cons_succ] at g0 g1 g2 g3 g4
  obtain ⟨n0, e0, w0, _⟩ := tr_int (k := .i64) (d := x0.1) (ps := x0.2) (by kernel_rfl) g0
  obtain ⟨n1, e1, w1, _⟩ := tr_int (k := .i64) (d := x1.1) (ps := x1.2) (by kernel_rfl) g1
  obtain ⟨n2, e2, w2, _⟩ := tr_int (k := .i64) (d := x2.1) (ps := x2.2) (by kernel_rfl) g2
  obtain ⟨n3, e3, w3, _⟩ := tr_int (k := .i64) (d := x3.1) (ps := x3.2) (by kernel_rfl) g3
  obtain ⟨A, len, c, e4⟩ : ∃ A len c, v4 = .slice A len c := by
    rcases DataW.trod_slice (e := 28) (by kernel_rfl) g4 with ⟨q, _⟩ | ⟨a, len, cap, _, _, _, _, q, _⟩
    · exact ⟨_, _, _, by simpa using q⟩
    · exact ⟨_, _, _, by simpa using q⟩
  subst e4
  obtain ⟨l, rfl, he, hb⟩ := open_els (n := 10) (by_ := 104) (fun q : MsgX => (msgC q.1 q.2.1 q.2.2).toList) (MsgX.ok W) (by kernel_rfl) (by kernel_rfl) (by kernel_rfl) (fun cs d ps fuel hz h => open_msg hz h) z4 g4
  simp only [List.cons.injEq, and_true] at e0 e1 e2 e3
  subst e0 e1 e2 e3
  exact ⟨⟨n0, n1, n2, n3, l, A, c⟩, rfl, i64_of w0, i64_of w1, i64_of w2, i64_of w3, he, (by show l.length ≤ 1353245080301; omega)⟩
end
abbrev AkM := List AskX × Option Addr × Nat
abbrev AkM.v (x : AkM) : Value := .slice x.2.1 x.1.length x.2.2
def AkM.ok (W : World) (x : AkM) : Prop := ElsAt 5 AskX.cells (AskX.ok W) W x.2.1 x.1 ∧ x.1.length ≤ 140737488351232
set_option maxRecDepth 100000 in
theorem open_asksM_said {H : Type} {enc : TypeId × Value → H} {W : World} {v : Value} {d : DataW H} {ps : List MemPlace} {ts : List TypeId} {ds : List (DataW H)} {base : Nat} (hsz : (DataW.weightsEach Try.prog ts ds).all (· ≤ reachBytes) = true) {j : Nat} (hj : ts[j]? = some 40) (hd : ds[j]? = some d)
    (hv : Value.okWide Try.prog W .any base 40 v) (h : DataW.Trod enc Try.prog W 0 (fun _ => true) true 40 v d ps) : ∃ x : AkM, v = x.v ∧ x.ok W := by
  obtain ⟨a, len, cap, rfl⟩ := okWide_slice Try.underlying40 hv
  obtain ⟨fuel, hf⟩ := h
  obtain ⟨l, rfl, h1, h2⟩ := open_els (n := 5) (by_ := 56) AskX.cells (AskX.ok W) (by kernel_rfl) (by kernel_rfl) (by kernel_rfl) (fun cs d ps fuel hz h => open_askX hz h) (fun n hn => by
    rw [List.all_eq_true] at hsz
    have := hsz n (DataW.weights_mem_each hj hd n hn)
    simpa using this) (show Tr enc Try.prog W fuel 40 [.slice a len cap] d ps from hf)
  exact ⟨(l, a, cap), rfl, h1, by show l.length ≤ 140737488351232; omega⟩
end Go.Proofs.Ythjabbheobpoeaa
