/- What an argument of type []Ask reads as. -/
import Derived.Test.YtakcdmmniaipeaaDisk13
import Derived.Test.YtakcdmmniaipeaaOpenS
import Derived.Deep.Slices
set_option linter.unusedVariables false
set_option linter.unusedSimpArgs false
namespace Go.Proofs.Ytakcdmmniaipeaa
open Go Go.RowKit Go.ChangeShapes Go.WideShapes B
def structOfA (P : Program) (t : TypeId) : Option (List (Nat × TypeId)) := match P.underlying t with | some (.struct fs) => some (fs.toList.map fun f => (f.offset, f.type)) | _ => none
/-- Nothing in it is greater than any machine holds. -/
def Szd {H : Type} (P : Program) (t : TypeId) (d : DataW H) : Prop := ∀ n ∈ d.weights P t, n ≤ reachBytes
section
variable {H : Type} {enc : TypeId × Value → H} {P : Program} {W : World} {t : TypeId} {cs : List Value} {d : DataW H} {ps : List MemPlace} {fuel : Nat}
theorem tr_structA {l : List (Nat × TypeId)} (hs : structOfA P t = some l) (h : Tr enc P W fuel t cs d ps) :
    ∃ (xs : List (DataW H × List MemPlace)) (n : Nat), fuel = n + 1 ∧ d = .agg (xs.map (·.1)) ∧ cs.length = P.cellsOf t ∧ xs.length = l.length ∧ (∀ (i o : Nat) (ty : TypeId), l[i]? = some (o, ty) → DataW.trod enc P W 0 (fun _ => true) true n ty ((cs.drop o).take (P.cellsOf ty)) = xs[i]?) ∧ (Szd P t d → ∀ (i o : Nat) (ty : TypeId) (x : DataW H × List MemPlace), l[i]? = some (o, ty) → xs[i]? = some x → Szd P ty x.1) := by
  unfold structOfA at hs
  split at hs
  · next fs hu =>
    injection hs with hs
    subst hs
    obtain ⟨xs, n, hf, hx, hl, hn, hget⟩ := DataW.trod_struct hu h
    have hd := (Prod.mk.inj hx).1
    have hg2 : ∀ (i o : Nat) (ty : TypeId), (fs.toList.map fun f => (f.offset, f.type))[i]? = some (o, ty) → ∃ f, fs.toList[i]? = some f ∧ f.offset = o ∧ f.type = ty := by
      intro i o ty hi
      rw [List.getElem?_map] at hi
      cases hg : fs.toList[i]? with
      | none => rw [hg] at hi; cases hi
      | some f =>
        rw [hg] at hi
        simp only [Option.map_some, Option.some.injEq, Prod.mk.injEq] at hi
        exact ⟨f, rfl, hi.1, hi.2⟩
    refine ⟨xs, n, hf, hd, hl, by simpa using hn, fun i o ty hi => ?_, fun hz i o ty x hi hx' => ?_⟩
    · obtain ⟨f, hg, rfl, rfl⟩ := hg2 i o ty hi
      exact hget i f (by rw [← Array.getElem?_toList]; exact hg)
    · obtain ⟨f, hg, rfl, rfl⟩ := hg2 i o ty hi
      intro m hm
      refine hz m ?_
      rw [hd]
      simp only [DataW.weights, hu]
      exact DataW.weights_mem_each (j := i) (by rw [List.getElem?_map, hg]; rfl) (by rw [List.getElem?_map, hx']; rfl) m hm
  · cases hs
theorem szd_all {e : TypeId} : ∀ {l : List (DataW H)} {d : DataW H}, d ∈ l → (∀ n ∈ DataW.weightsAll P e l, n ≤ reachBytes) → Szd P e d
  | [], d, h, _ => by simp at h
  | x :: r, d, h, hz => by
    simp only [DataW.weightsAll, List.mem_append] at hz
    rcases List.mem_cons.1 h with rfl | h
    · exact fun n hn => hz n (.inl hn)
    · exact szd_all h (fun n hn => hz n (.inr hn))
end
theorem five {α : Type} {l : List α} (h : l.length = 5) : ∃ a b c d e, l = [a, b, c, d, e] := by
  match l, h with
  | [a, b, c, d, e], _ => exact ⟨a, b, c, d, e, rfl⟩
theorem open_ask {H : Type} {enc : TypeId × Value → H} {W : World} {cs : List Value} {d : DataW H} {ps : List MemPlace} {fuel : Nat} (hz : Szd Try.prog 48 d) (h : Tr enc Try.prog W fuel 48 cs d ps) :
    ∃ (x : Ask) (A : Option Addr) (c : Nat), cs = [.int .i64 x.kind, .int .i64 x.file, .int .i64 x.at_, .int .i64 x.n, .slice A x.data.length c] ∧ AskOk W x A c := by
  obtain ⟨xs, n, rfl, rfl, hl, hn, hget, hsz⟩ := tr_structA (l := [(0, 3), (1, 3), (2, 3), (3, 3), (4, 22)]) (by kernel_rfl) h
  replace hsz := hsz hz
  obtain ⟨v0, v1, v2, v3, v4, rfl⟩ := five (hl.trans (by kernel_rfl))
  obtain ⟨x0, x1, x2, x3, x4, rfl⟩ := five hn
  have g0 := hget 0 _ _ rfl
  have g1 := hget 1 _ _ rfl
  have g2 := hget 2 _ _ rfl
  have g3 := hget 3 _ _ rfl
  have g4 := hget 4 _ _ rfl
  have z4 := hsz 4 _ _ x4 rfl rfl
  have c1 : Try.prog.cellsOf 3 = 1 := by kernel_rfl
  have c3 : Try.prog.cellsOf 22 = 1 := by kernel_rfl
  rw [c1] at g0 g1 g2 g3
  rw [c3] at g4
  simp only [List.drop, List.take, List.getElem?_cons_zero, List.getElem?_cons_succ] at g0 g1 g2 g3 g4
  obtain ⟨n0, e0, w0, _⟩ := tr_int (k := .i64) (d := x0.1) (ps := x0.2) (by kernel_rfl) g0
  obtain ⟨n1, e1, w1, _⟩ := tr_int (k := .i64) (d := x1.1) (ps := x1.2) (by kernel_rfl) g1
  obtain ⟨n2, e2, w2, _⟩ := tr_int (k := .i64) (d := x2.1) (ps := x2.2) (by kernel_rfl) g2
  obtain ⟨n3, e3, w3, _⟩ := tr_int (k := .i64) (d := x3.1) (ps := x3.2) (by kernel_rfl) g3
  obtain ⟨A, len, c, e4⟩ : ∃ A len c, v4 = .slice A len c := by
    rcases DataW.trod_slice (e := 5) (by kernel_rfl) g4 with ⟨q, _⟩ | ⟨a, len, cap, _, _, _, _, q, _⟩
    · exact ⟨_, _, _, by simpa using q⟩
    · exact ⟨_, _, _, by simpa using q⟩
  subst e4
  obtain ⟨l, rfl, hr, hc, hm, hw⟩ := open_row_u8_said (ts := [22]) (ds := [x4.1]) (d := x4.1) (ps := x4.2) (by
    rw [List.all_eq_true]
    intro m hm
    simp only [DataW.weightsEach, List.append_nil] at hm
    exact decide_eq_true (z4 m hm)) (j := 0) rfl rfl ⟨n, g4⟩
  simp only [List.cons.injEq, and_true] at e0 e1 e2 e3
  subst e0 e1 e2 e3
  refine ⟨⟨n0, n1, n2, n3, l⟩, A, c, rfl, ⟨hr, hw, i64_of w0, i64_of w1, i64_of w2, i64_of w3, (show l.length ≤ 140737488351232 by omega), hc, fun ad e hp => ?_⟩⟩
  exact hr.lt (by rw [List.length_map]; exact hp) ad e
theorem open_asks {H : Type} {enc : TypeId × Value → H} {W : World} {d : DataW H} {ps : List MemPlace} {a : Option Addr} {len cap : Nat} (hz : Szd Try.prog 45 d) (h : DataW.Trod enc Try.prog W 0 (fun _ => true) true 45 (.slice a len cap) d ps) :
    ∃ l : List (Ask × Option Addr × Nat), len = l.length ∧ Aks W a l ∧ l.length ≤ 140737488351232 := by
  obtain ⟨fuel, hf⟩ := h
  have c5 : Try.prog.cellsOf 48 = 5 := by kernel_rfl
  have b5 : Try.prog.bytesOf 48 = 56 := by kernel_rfl
  have hu : Try.prog.underlying 45 = some (.slice 48) := by kernel_rfl
  rcases Go.Deep.open_slice (e := 48) hu hf with ⟨hcs, _⟩ | ⟨ad, len', cap', m, n, D, Pl, hcs, _, hl, hm, hmm, hx, hel⟩
  · simp [Value.cells] at hcs
    obtain ⟨rfl, rfl, rfl⟩ := hcs
    exact ⟨[], rfl, fun i q hi => by simp at hi, by simp⟩
  · simp [Value.cells] at hcs
    obtain ⟨rfl, rfl, rfl⟩ := hcs
    simp only [if_true] at hmm
    subst hmm
    have hxd := congrArg Prod.fst hx
    simp only at hxd
    rw [hxd] at hz
    unfold Szd at hz
    simp only [DataW.weights, hu, List.mem_cons, List.mem_append] at hz
    have hw := hz _ (.inl rfl)
    simp only [List.length_map, List.length_range, b5] at hw
    rw [show reachBytes = 140737488351232 from rfl] at hw
    have hza : ∀ i, i < len → Szd Try.prog 48 (D i) := fun i hi => szd_all (l := (List.range len).map D) (List.mem_map.2 ⟨i, List.mem_range.2 hi, rfl⟩) (fun n hn => hz n (.inr (.inl hn)))
    have hel2 : ∀ i, i < len → ∃ q : Ask × Option Addr × Nat, (W.cell? (ad.add (i * 5)) = some (.int .i64 q.1.kind) ∧ W.cell? ⟨(ad.add (i * 5)).block, (ad.add (i * 5)).off + 1, none⟩ = some (.int .i64 q.1.file) ∧ W.cell? ⟨(ad.add (i * 5)).block, (ad.add (i * 5)).off + 2, none⟩ = some (.int .i64 q.1.at_) ∧ W.cell? ⟨(ad.add (i * 5)).block, (ad.add (i * 5)).off + 3, none⟩ = some (.int .i64 q.1.n) ∧ W.cell? ⟨(ad.add (i * 5)).block, (ad.add (i * 5)).off + 4, none⟩ = some (.slice q.2.1 q.1.data.length q.2.2)) ∧ AskOk W q.1 q.2.1 q.2.2 := by
      intro i hi
      obtain ⟨cs', h1, h2⟩ := hel i (by omega)
      rw [c5] at h1
      obtain ⟨x, A, c, rfl, hok⟩ := open_ask (hza i hi) h2
      obtain ⟨_, _, hc⟩ := World.cells?_some h1
      have k0 := hc 0 (by omega)
      have k1 := hc 1 (by omega)
      have k2 := hc 2 (by omega)
      have k3 := hc 3 (by omega)
      have k4 := hc 4 (by omega)
      simp only [B.add_add, Nat.add_zero] at k0 k1 k2 k3 k4
      refine ⟨(x, A, c), ⟨k0, ?_, ?_, ?_, ?_⟩, hok⟩
      · rw [add_fld _ _ _ (by omega)]; exact k1
      · rw [add_fld _ _ _ (by omega)]; exact k2
      · rw [add_fld _ _ _ (by omega)]; exact k3
      · rw [add_fld _ _ _ (by omega)]; exact k4
    have : Inhabited (Ask × Option Addr × Nat) := ⟨(⟨0, 0, 0, 0, []⟩, none, 0)⟩
    obtain ⟨f, hf2⟩ := Go.Deep.choose_lt hel2
    refine ⟨(List.range len).map f, by simp, fun i q hi => ?_, by simp; omega⟩
    rw [List.getElem?_map] at hi
    by_cases hi2 : i < len
    · rw [List.getElem?_range hi2] at hi
      simp only [Option.map_some, Option.some.injEq] at hi
      subst hi
      exact ⟨ad, rfl, hf2 i hi2⟩
    · rw [List.getElem?_eq_none (by simpa using hi2)] at hi
      cases hi
abbrev AkX := List (Ask × Option Addr × Nat) × Option Addr × Nat
abbrev AkX.v (x : AkX) : Value := .slice x.2.1 x.1.length x.2.2
def AkX.ok (W : World) (x : AkX) : Prop := Aks W x.2.1 x.1 ∧ x.1.length ≤ 140737488351232
set_option maxRecDepth 100000 in
theorem open_asks_said {H : Type} {enc : TypeId × Value → H} {W : World} {v : Value} {d : DataW H} {ps : List MemPlace} {ts : List TypeId} {ds : List (DataW H)} {base : Nat} (hsz : (DataW.weightsEach Try.prog ts ds).all (· ≤ reachBytes) = true) {j : Nat} (hj : ts[j]? = some 45) (hd : ds[j]? = some d)
    (hv : Value.okWide Try.prog W .any base 45 v) (h : DataW.Trod enc Try.prog W 0 (fun _ => true) true 45 v d ps) : ∃ x : AkX, v = x.v ∧ x.ok W := by
  obtain ⟨a, len, cap, rfl⟩ := okWide_slice Try.underlying45 hv
  obtain ⟨l, rfl, h1, h2⟩ := open_asks (fun n hn => by
    rw [List.all_eq_true] at hsz
    have := hsz n (DataW.weights_mem_each hj hd n hn)
    simpa using this) h
  exact ⟨(l, a, cap), rfl, h1, h2⟩
end Go.Proofs.Ytakcdmmniaipeaa
