/- Chapter 20's laws: asks in memory; what a disk that nobody arms keeps. -/
import Derived.Test.YtakcdmmniaipeaaDisk12
set_option linter.unusedVariables false
set_option linter.unusedSimpArgs false
namespace Go.Proofs.Ytakcdmmniaipeaa
open Go.RowKit B
structure Ask where
  kind : Int
  file : Int
  at_ : Int
  n : Int
  data : List Int
structure AskOk (w : World) (q : Ask) (A : Option Addr) (c : Nat) : Prop where
  row : Row w A (B8 q.data)
  byt : Byt q.data
  i0 : I64 q.kind
  i1 : I64 q.file
  i2 : I64 q.at_
  i3 : I64 q.n
  len : q.data.length ≤ 140737488351232
  cap : q.data.length ≤ c
  blk : ∀ ad, A = some ad → 0 < q.data.length → ad.block < w.heap.size
/-- The asks of a slice, where they lie. -/
def Aks (w : World) (a : Option Addr) (l : List (Ask × Option Addr × Nat)) : Prop := ∀ i q, l[i]? = some q → ∃ ad, a = some ad ∧
  (w.cell? (ad.add (i * 5)) = some (.int .i64 q.1.kind) ∧ w.cell? ⟨(ad.add (i * 5)).block, (ad.add (i * 5)).off + 1, none⟩ = some (.int .i64 q.1.file) ∧ w.cell? ⟨(ad.add (i * 5)).block, (ad.add (i * 5)).off + 2, none⟩ = some (.int .i64 q.1.at_) ∧ w.cell? ⟨(ad.add (i * 5)).block, (ad.add (i * 5)).off + 3, none⟩ = some (.int .i64 q.1.n) ∧ w.cell? ⟨(ad.add (i * 5)).block, (ad.add (i * 5)).off + 4, none⟩ = some (.slice q.2.1 q.1.data.length q.2.2)) ∧ AskOk w q.1 q.2.1 q.2.2
theorem AskOk.ext0 {w w1 : World} {q : Ask} {A : Option Addr} {c : Nat} (h : AskOk w q A c) (hx : Ext None_ w w1) : AskOk w1 q A c := ⟨h.row.ext0 hx, h.byt, h.i0, h.i1, h.i2, h.i3, h.len, h.cap, fun ad e hl => Nat.lt_of_lt_of_le (h.blk ad e hl) hx.size⟩
theorem Aks.ext0 {w w1 : World} {a : Option Addr} {l : List (Ask × Option Addr × Nat)} (h : Aks w a l) (hx : Ext None_ w w1) : Aks w1 a l := fun i q hi => by
  obtain ⟨ad, h1, ⟨h2, h3, h4, h5, h6⟩, h7⟩ := h i q hi
  exact ⟨ad, h1, ⟨hx.cell h2 (fun a => a), hx.cell h3 (fun a => a), hx.cell h4 (fun a => a), hx.cell h5 (fun a => a), hx.cell h6 (fun a => a)⟩, h7.ext0 hx⟩
theorem count_calm {D : DS} (h1 : D.off = false) (h2 : D.armed = 0) : countD D = (true, D) := by
  unfold countD
  rw [h1, if_neg (by decide), h2, if_neg (by decide)]
theorem heldN_set : ∀ (F : List (List Int)) (n : Nat) (l : List Int), n < F.length → heldN (F.set n l) + (fileAt F n).length = heldN F + l.length
  | [], n, l, h => by simp at h
  | x :: r, 0, l, _ => by simp [heldN, fileAt]; omega
  | x :: r, n + 1, l, h => by
    have := heldN_set r n l (by simpa using h)
    simp only [heldN, fileAt, List.set_cons_succ, List.map_cons, List.sum_cons, Int.toNat_natCast, List.getElem?_cons_succ] at this ⊢
    omega
/-- A disk that nobody arms, and on which no more is held than may be. -/
structure Calm (q : Int) (D : DS) : Prop where
  quota : D.quota = q
  held : (heldN D.files : Int) ≤ q
  off : D.off = false
  armed : D.armed = 0
  f64 : D.files.length = 64
def stepD (D : DS) (a : Ask) : Int × DS := if a.kind = 1 then writeD D a.file a.at_ a.data else if a.kind = 2 then cutD D a.file a.at_ else if a.kind = 3 then syncD D else (0, D)
theorem calm_write {q : Int} {D : DS} (h : Calm q D) (f z : Int) (p : List Int) : Calm q (writeD D f z p).2 ∧ ((writeD D f z p).1 ≠ 0 → (writeD D f z p).2 = D) ∧ (writeD D f z p).1 ≠ 11 ∧ (writeD D f z p).2.wait.length ≤ D.wait.length + 1 := by
  unfold writeD
  rw [count_calm h.off h.armed]
  rw [if_pos rfl]
  split
  · rename_i ha
    simp only [atOk, Bool.and_eq_true, decide_eq_true_eq] at ha
    obtain ⟨hf, hz0, hz1⟩ := ha
    obtain ⟨hf0, hf1⟩ := inF_true hf
    split
    · exact ⟨h, fun _ => rfl, by simp, by simp⟩
    · rename_i hfu
      refine ⟨⟨h.quota, ?_, h.off, h.armed, by simpa using h.f64⟩, fun e => absurd rfl e, by simp, by simp⟩
      simp only
      have hs := heldN_set D.files f.toNat (wrF (fileAt D.files f) z.toNat p) (by rw [h.f64]; omega)
      rw [show ((f.toNat : Nat) : Int) = f by omega, wrF_length] at hs
      have hq := h.quota
      have hh := h.held
      simp only [fullD, Bool.and_eq_true, decide_eq_true_eq, not_and] at hfu
      by_cases hg : ((fileAt D.files f).length : Int) < z + p.length
      · have := hfu hg
        omega
      · omega
  · exact ⟨h, fun _ => rfl, by simp, by simp⟩
theorem calm_cut {q : Int} {D : DS} (h : Calm q D) (f z : Int) : Calm q (cutD D f z).2 ∧ ((cutD D f z).1 ≠ 0 → (cutD D f z).2 = D) ∧ (cutD D f z).1 ≠ 11 ∧ (cutD D f z).2.wait.length ≤ D.wait.length + 1 := by
  unfold cutD
  rw [count_calm h.off h.armed]
  rw [if_pos rfl]
  split
  · rename_i ha
    simp only [cutOk, Bool.and_eq_true, decide_eq_true_eq] at ha
    obtain ⟨hf, hz0, hz1⟩ := ha
    obtain ⟨hf0, hf1⟩ := inF_true hf
    refine ⟨⟨h.quota, ?_, h.off, h.armed, by simpa using h.f64⟩, fun e => absurd rfl e, by simp, by simp⟩
    simp only
    have hs := heldN_set D.files f.toNat ((fileAt D.files f).take z.toNat) (by rw [h.f64]; omega)
    rw [show ((f.toNat : Nat) : Int) = f by omega, List.length_take] at hs
    have hh := h.held
    omega
  · exact ⟨h, fun _ => rfl, by simp, by simp⟩
theorem calm_sync {q : Int} {D : DS} (h : Calm q D) : Calm q (syncD D).2 ∧ (syncD D).1 = 0 ∧ (syncD D).2.wait.length ≤ D.wait.length + 1 := by
  unfold syncD
  rw [count_calm h.off h.armed]
  rw [if_pos rfl]
  exact ⟨⟨h.quota, h.held, h.off, h.armed, h.f64⟩, rfl, by simp⟩
theorem calm_empty {q : Int} (h : 0 ≤ q) : Calm q (emptyD q) := ⟨rfl, by simp [emptyD, heldN]; exact h, rfl, rfl, by simp [emptyD]⟩
end Go.Proofs.Ytakcdmmniaipeaa
