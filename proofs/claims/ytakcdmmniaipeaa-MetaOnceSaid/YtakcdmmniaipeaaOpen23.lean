/- What an argument of type []draylaw23.Ask reads as. Written by gen_open23.py. -/
import Derived.Test.YtakcdmmniaipeaaOpenA
set_option linter.unusedVariables false
set_option linter.unusedSimpArgs false
namespace Go.Proofs.Ytakcdmmniaipeaa
open Go Go.RowKit Go.ChangeShapes Go.WideShapes B
structure AskM where
  kind : Int
  term : Int
  vote : Int
  n : Int
  keep : Int
  torn : Int
  raw : Bool
def AskM.ok (q : AskM) : Prop := I64 q.kind ∧ I64 q.term ∧ I64 q.vote ∧ I64 q.n ∧ I64 q.keep ∧ I64 q.torn
def Aks23 (W : World) (a : Option Addr) (l : List AskM) : Prop := ∀ i q, l[i]? = some q → ∃ ad, a = some ad ∧ (W.cell? (ad.add (i * 7)) = some (.int .i64 q.kind) ∧ W.cell? ⟨(ad.add (i * 7)).block, (ad.add (i * 7)).off + 1, none⟩ = some (.int .i64 q.term) ∧ W.cell? ⟨(ad.add (i * 7)).block, (ad.add (i * 7)).off + 2, none⟩ = some (.int .i64 q.vote) ∧ W.cell? ⟨(ad.add (i * 7)).block, (ad.add (i * 7)).off + 3, none⟩ = some (.int .i64 q.n) ∧ W.cell? ⟨(ad.add (i * 7)).block, (ad.add (i * 7)).off + 4, none⟩ = some (.int .i64 q.keep) ∧ W.cell? ⟨(ad.add (i * 7)).block, (ad.add (i * 7)).off + 5, none⟩ = some (.int .i64 q.torn) ∧ W.cell? ⟨(ad.add (i * 7)).block, (ad.add (i * 7)).off + 6, none⟩ = some (.bool q.raw)) ∧ q.ok
theorem seven {α : Type} {l : List α} (h : l.length = 7) : ∃ a b c d e f g, l = [a, b, c, d, e, f, g] := by
  match l, h with
  | [a, b, c, d, e, f, g], _ => exact ⟨a, b, c, d, e, f, g, rfl⟩
theorem Aks23.ext0 {w w1 : World} {a : Option Addr} {l : List AskM} (h : Aks23 w a l) (hx : Ext None_ w w1) : Aks23 w1 a l := fun i q hi => by
  obtain ⟨ad, h1, ⟨h2, h3, h4, h5, h6, h7, h8⟩, h9⟩ := h i q hi
  exact ⟨ad, h1, ⟨hx.cell h2 (fun a => a), hx.cell h3 (fun a => a), hx.cell h4 (fun a => a), hx.cell h5 (fun a => a), hx.cell h6 (fun a => a), hx.cell h7 (fun a => a), hx.cell h8 (fun a => a)⟩, h9⟩
theorem open_ask23 {H : Type} {enc : TypeId × Value → H} {W : World} {cs : List Value} {d : DataW H} {ps : List MemPlace} {fuel : Nat} (h : Tr enc Try.prog W fuel 38 cs d ps) :
    ∃ q : AskM, cs = [.int .i64 q.kind, .int .i64 q.term, .int .i64 q.vote, .int .i64 q.n, .int .i64 q.keep, .int .i64 q.torn, .bool q.raw] ∧ q.ok := by
  obtain ⟨xs, n, rfl, rfl, hl, hn, hget, _⟩ := tr_structA (l := [(0, 3), (1, 3), (2, 3), (3, 3), (4, 3), (5, 3), (6, 4)]) (by kernel_rfl) h
  obtain ⟨v0, v1, v2, v3, v4, v5, v6, rfl⟩ := seven (hl.trans (by kernel_rfl))
  obtain ⟨x0, x1, x2, x3, x4, x5, x6, rfl⟩ := seven hn
  have g0 := hget 0 _ _ rfl
  have g1 := hget 1 _ _ rfl
  have g2 := hget 2 _ _ rfl
  have g3 := hget 3 _ _ rfl
  have g4 := hget 4 _ _ rfl
  have g5 := hget 5 _ _ rfl
  have g6 := hget 6 _ _ rfl
  have c1 : Try.prog.cellsOf 3 = 1 := by kernel_rfl
  have c3 : Try.prog.cellsOf 4 = 1 := by kernel_rfl
  rw [c1] at g0 g1 g2 g3 g4 g5
  rw [c3] at g6
  simp only [List.drop, List.take, List.getElem?_cons_zero, List.getElem?_cons_succ] at g0 g1 g2 g3 g4 g5 g6
  obtain ⟨n0, e0, w0, _⟩ := tr_int (k := .i64) (d := x0.1) (ps := x0.2) (by kernel_rfl) g0
  obtain ⟨n1, e1, w1, _⟩ := tr_int (k := .i64) (d := x1.1) (ps := x1.2) (by kernel_rfl) g1
  obtain ⟨n2, e2, w2, _⟩ := tr_int (k := .i64) (d := x2.1) (ps := x2.2) (by kernel_rfl) g2
  obtain ⟨n3, e3, w3, _⟩ := tr_int (k := .i64) (d := x3.1) (ps := x3.2) (by kernel_rfl) g3
  obtain ⟨n4, e4, w4, _⟩ := tr_int (k := .i64) (d := x4.1) (ps := x4.2) (by kernel_rfl) g4
  obtain ⟨n5, e5, w5, _⟩ := tr_int (k := .i64) (d := x5.1) (ps := x5.2) (by kernel_rfl) g5
  obtain ⟨b, e6, _⟩ := tr_bool (d := x6.1) (ps := x6.2) (by kernel_rfl) g6
  simp only [List.cons.injEq, and_true] at e0 e1 e2 e3 e4 e5 e6
  subst e0 e1 e2 e3 e4 e5 e6
  exact ⟨⟨n0, n1, n2, n3, n4, n5, b⟩, rfl, i64_of w0, i64_of w1, i64_of w2, i64_of w3, i64_of w4, i64_of w5⟩
theorem open_asks23 {H : Type} {enc : TypeId × Value → H} {W : World} {d : DataW H} {ps : List MemPlace} {a : Option Addr} {len cap : Nat} (hz : Szd Try.prog 36 d) (h : DataW.Trod enc Try.prog W 0 (fun _ => true) true 36 (.slice a len cap) d ps) :
    ∃ l : List AskM, len = l.length ∧ Aks23 W a l ∧ l.length ≤ 140737488351232 := by
  obtain ⟨fuel, hf⟩ := h
  have c5 : Try.prog.cellsOf 38 = 7 := by kernel_rfl
  have b5 : Try.prog.bytesOf 38 = 56 := by kernel_rfl
  have hu : Try.prog.underlying 36 = some (.slice 38) := by kernel_rfl
  rcases Go.Deep.open_slice (e := 38) hu hf with ⟨hcs, _⟩ | ⟨ad, len', cap', m, n, D, Pl, hcs, _, hl, hm, hmm, hx, hel⟩
  · simp [Value.cells] at hcs
    obtain ⟨rfl, rfl, rfl⟩ := hcs
    exact ⟨[], rfl, fun i q hi => by simp at hi, by simp⟩
  · simp [Value.cells] at hcs
    obtain ⟨rfl, rfl, rfl⟩ := hcs
    simp only [if_true] at hmm
    subst hmm
    have hxd := congrArg Prod.fst hx
    simp only at hxd
    rw [hxd] at hz
    unfold Szd at hz
    simp only [DataW.weights, hu, List.mem_cons, List.mem_append] at hz
    have hw := hz _ (.inl rfl)
    simp only [List.length_map, List.length_range, b5] at hw
    rw [show reachBytes = 140737488351232 from rfl] at hw
    have hel2 : ∀ i, i < len → ∃ q : AskM, (W.cell? (ad.add (i * 7)) = some (.int .i64 q.kind) ∧ W.cell? ⟨(ad.add (i * 7)).block, (ad.add (i * 7)).off + 1, none⟩ = some (.int .i64 q.term) ∧ W.cell? ⟨(ad.add (i * 7)).block, (ad.add (i * 7)).off + 2, none⟩ = some (.int .i64 q.vote) ∧ W.cell? ⟨(ad.add (i * 7)).block, (ad.add (i * 7)).off + 3, none⟩ = some (.int .i64 q.n) ∧ W.cell? ⟨(ad.add (i * 7)).block, (ad.add (i * 7)).off + 4, none⟩ = some (.int .i64 q.keep) ∧ W.cell? ⟨(ad.add (i * 7)).block, (ad.add (i * 7)).off + 5, none⟩ = some (.int .i64 q.torn) ∧ W.cell? ⟨(ad.add (i * 7)).block, (ad.add (i * 7)).off + 6, none⟩ = some (.bool q.raw)) ∧ q.ok := by
      intro i hi
      obtain ⟨cs', h1, h2⟩ := hel i (by omega)
      rw [c5] at h1
      obtain ⟨q, rfl, hok⟩ := open_ask23 h2
      obtain ⟨_, _, hc⟩ := World.cells?_some h1
      have k0 := hc 0 (by omega)
      have k1 := hc 1 (by omega)
      have k2 := hc 2 (by omega)
      have k3 := hc 3 (by omega)
      have k4 := hc 4 (by omega)
      have k5 := hc 5 (by omega)
      have k6 := hc 6 (by omega)
      simp only [B.add_add, Nat.add_zero] at k0 k1 k2 k3 k4 k5 k6
      refine ⟨q, ⟨k0, ?_, ?_, ?_, ?_, ?_, ?_⟩, hok⟩
      · rw [add_fld _ _ _ (by omega)]; exact k1
      · rw [add_fld _ _ _ (by omega)]; exact k2
      · rw [add_fld _ _ _ (by omega)]; exact k3
      · rw [add_fld _ _ _ (by omega)]; exact k4
      · rw [add_fld _ _ _ (by omega)]; exact k5
      · rw [add_fld _ _ _ (by omega)]; exact k6
    have : Inhabited AskM := ⟨⟨0, 0, 0, 0, 0, 0, false⟩⟩
    obtain ⟨f, hf2⟩ := Go.Deep.choose_lt hel2
    refine ⟨(List.range len).map f, by simp, fun i q hi => ?_, by simp; omega⟩
    rw [List.getElem?_map] at hi
    by_cases hi2 : i < len
    · rw [List.getElem?_range hi2] at hi
      simp only [Option.map_some, Option.some.injEq] at hi
      subst hi
      exact ⟨ad, rfl, hf2 i hi2⟩
    · rw [List.getElem?_eq_none (by simpa using hi2)] at hi
      cases hi
abbrev AmX := List AskM × Option Addr × Nat
abbrev AmX.v (x : AmX) : Value := .slice x.2.1 x.1.length x.2.2
def AmX.ok (W : World) (x : AmX) : Prop := Aks23 W x.2.1 x.1 ∧ x.1.length ≤ 140737488351232
set_option maxRecDepth 100000 in
theorem open_asks23_said {H : Type} {enc : TypeId × Value → H} {W : World} {v : Value} {d : DataW H} {ps : List MemPlace} {ts : List TypeId} {ds : List (DataW H)} {base : Nat} (hsz : (DataW.weightsEach Try.prog ts ds).all (· ≤ reachBytes) = true) {j : Nat} (hj : ts[j]? = some 36) (hd : ds[j]? = some d)
    (hv : Value.okWide Try.prog W .any base 36 v) (h : DataW.Trod enc Try.prog W 0 (fun _ => true) true 36 v d ps) : ∃ x : AmX, v = x.v ∧ x.ok W := by
  obtain ⟨a, len, cap, rfl⟩ := okWide_slice Try.underlying36 hv
  obtain ⟨l, rfl, h1, h2⟩ := open_asks23 (fun n hn => by
    rw [List.all_eq_true] at hsz
    have := hsz n (DataW.weights_mem_each hj hd n hn)
    simpa using this) h
  exact ⟨(l, a, cap), rfl, h1, h2⟩
end Go.Proofs.Ytakcdmmniaipeaa
