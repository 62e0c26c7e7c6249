/- Package meta, plain: what a record's bytes say, whole and cut. · Package meta, plain: what Open finds in files that fit. · Package meta, plain: what a crash leaves. · Package meta, plain: what Set leaves. · Package meta, plain: the start, and what waits. -/
import Derived.Test.YtakcdmmniaipeaaMeta4
import Derived.Test.YtakcdmmniaipeaaDisk17
set_option linter.unusedVariables false
set_option linter.unusedSimpArgs false
namespace Go.Proofs.Ytakcdmmniaipeaa
open Go.RowKit B
theorem rd_takeM (l : List Int) (t : Nat) (i : Nat) (h : i < t) : rd (l.take t) (i : Int) = rd l (i : Int) := by
  unfold rd
  rw [Int.toNat_natCast, List.getD_eq_getElem?_getD, List.getD_eq_getElem?_getD, List.getElem?_take_of_lt h]
theorem hn_frameM (p : List Int) (hp : p.length ≤ 16384) : hn (frameS p) = (p.length : Int) := by
  have v4 : ∀ (c : BitVec 32), val4 (nt c % 256) (nt c / 256 % 256) (nt c / 65536 % 256) (nt c / 16777216) = nt c := by
    intro c
    have : 0 ≤ nt c ∧ nt c < 4294967296 := by unfold nt; have := c.isLt; omega
    unfold val4; omega
  show val4 (nt _ % 256) (nt _ / 256 % 256) (nt _ / 65536 % 256) (nt _ / 16777216) = _
  rw [v4]
  unfold nt
  rw [BitVec.toNat_ofInt]
  omega
theorem next_frame (p : List Int) (hp : p.length ≤ 16384) : nextF (frameS p) 0 = (p, 8 + (p.length : Int), 0) := by
  have hl := frameS_len p
  have hb : bodyOf (frameS p) = p := by
    unfold bodyOf
    rw [hn_frameM p hp, List.take_of_length_le (by omega)]
    unfold frameS
    rw [List.drop_left' (by rw [List.length_append, hdp_len, le4_len])]
  have h4 : (frameS p).take 4 = hdp p := by
    unfold frameS
    rw [List.append_assoc, List.take_left' (hdp_len p)]
  have hd : hn ((frameS p).drop 4) = nt (sumOf 0#32 (hdp p ++ p)) := by
    have e : (frameS p).drop 4 = le4 (sumOf 0#32 (hdp p ++ p)) ++ p := by
      unfold frameS
      rw [List.append_assoc, List.drop_left' (hdp_len p)]
    rw [e]
    obtain ⟨c, hc⟩ : ∃ c, c = sumOf 0#32 (hdp p ++ p) := ⟨_, rfl⟩
    rw [← hc]
    have : 0 ≤ nt c ∧ nt c < 4294967296 := by unfold nt; have := c.isLt; omega
    show val4 (nt c % 256) (nt c / 256 % 256) (nt c / 65536 % 256) (nt c / 16777216) = _
    unfold val4; omega
  unfold nextF
  rw [if_neg (by omega), if_neg (by omega)]
  simp only [Int.toNat_zero, List.drop_zero]
  rw [if_neg (by omega), hn_frameM p hp, if_neg (by omega), if_neg (by omega), hb, h4, hd, if_neg (fun h => h rfl)]
  simp
theorem next_cutM (p : List Int) (hp : p.length ≤ 16384) (t : Nat) (ht : t < (frameS p).length) : (nextF ((frameS p).take t) 0).2.2 ≠ 0 := by
  have hl := frameS_len p
  have hlen : ((frameS p).take t).length = t := by rw [List.length_take]; omega
  unfold nextF
  rw [if_neg (by omega)]
  split
  · simp
  · simp only [Int.toNat_zero, List.drop_zero]
    split
    · simp
    · rename_i h8
      have hh : hn ((frameS p).take t) = (p.length : Int) := by
        rw [← hn_frameM p hp]
        unfold hn
        have e0 : rd ((frameS p).take t) 0 = rd (frameS p) 0 := rd_takeM _ t 0 (by omega)
        have e1 : rd ((frameS p).take t) 1 = rd (frameS p) 1 := rd_takeM _ t 1 (by omega)
        have e2 : rd ((frameS p).take t) 2 = rd (frameS p) 2 := rd_takeM _ t 2 (by omega)
        have e3 : rd ((frameS p).take t) 3 = rd (frameS p) 3 := rd_takeM _ t 3 (by omega)
        rw [e0, e1, e2, e3]
      rw [hh, if_neg (by omega), if_pos (by omega)]
      simp
theorem nums_rec (a t v : Int) (ha : I64 a) (ht : I64 t) (hv : I64 v) : numsP (enc a ++ enc t ++ enc v) = (⟨a, t, v⟩, ⟨(enc a ++ enc t ++ enc v).length, 0, 0⟩) := by
  obtain ⟨p, hp⟩ : ∃ p, p = enc a ++ enc t ++ enc v := ⟨_, rfl⟩
  have n1 : NumR p ⟨0, 0, 0⟩ = (a, ⟨(enc a).length, 0, 0⟩) := by
    unfold NumR
    rw [if_pos rfl, numR_enc p 0 ⟨0, 0, 0⟩ a (enc t ++ enc v) ha (by rw [hp]; simp)]
    simp
  have n2 : NumR p ⟨(enc a).length, 0, 0⟩ = (t, ⟨(enc a).length + (enc t).length, 0, 0⟩) := by
    unfold NumR
    rw [if_pos rfl, numR_enc p _ ⟨(enc a).length, 0, 0⟩ t (enc v) ht (by rw [hp, List.append_assoc]; exact List.drop_left' rfl)]
  have n3 : NumR p ⟨(enc a).length + (enc t).length, 0, 0⟩ = (v, ⟨(enc a).length + (enc t).length + (enc v).length, 0, 0⟩) := by
    unfold NumR
    rw [if_pos rfl, numR_enc p _ ⟨(enc a).length + (enc t).length, 0, 0⟩ v [] hv (by rw [hp, List.append_nil]; exact List.drop_left' (by simp))]
  rw [← hp]
  unfold numsP
  rw [n1]
  simp only
  rw [n2]
  simp only
  rw [n3]
  simp only
  unfold EndR
  rw [if_neg (by rw [hp]; simp only [List.length_append]; omega)]
  rw [hp]
  simp only [List.length_append]
theorem recB_eq (a t v : Int) : recB a t v = frameS (enc a ++ enc t ++ enc v) := by
  have := enc3_len a t v
  unfold recB putF
  rw [if_neg (by omega), List.nil_append]
theorem recF_rec (a t v : Int) (ha : I64 a) (ht : I64 t) (hv : I64 v) (hok : (⟨a, t, v⟩ : Rec).ok) : recF (recB a t v) = some ⟨a, t, v⟩ := by
  have := enc3_len a t v
  unfold recF
  rw [recB_eq, next_frame _ (by omega)]
  simp only
  rw [nums_rec a t v ha ht hv, if_pos trivial, if_pos ⟨rfl, hok⟩]
theorem recF_cut (a t v : Int) (k : Nat) (hk : k < (recB a t v).length) : recF ((recB a t v).take k) = none := by
  have := enc3_len a t v
  rw [recB_eq] at hk ⊢
  unfold recF
  rw [if_neg (next_cutM _ (by omega) k hk)]
theorem recF_nil : recF [] = none := by
  have h := recF_cut 0 0 0 0 (by decide +kernel)
  simpa using h
end Go.Proofs.Ytakcdmmniaipeaa
namespace Go.Proofs.Ytakcdmmniaipeaa
open Go.RowKit B
/-- The files fit what the Meta knows. -/
structure Fit (fs : List (List Int)) (m : Mt) : Prop where
  f64 : fs.length = 64
  f2 : fileAt fs 2 = []
  f3 : fileAt fs 3 = []
  fl : 0 ≤ m.file ∧ m.file ≤ 1
  own : (m.r.ok ∧ fileAt fs m.file = recB m.r.age m.r.term m.r.vote) ∨ (m = ⟨1, ⟨0, 0, -1⟩⟩ ∧ fileAt fs 1 = [])
  old : ∀ r, recF (fileAt fs (1 - m.file)) = some r → r.age < m.r.age
theorem Rec.ok.i64 {r : Rec} (h : r.ok) : I64 r.age ∧ I64 r.term ∧ I64 r.vote := by
  obtain ⟨h1, h2, h3, h4, h5, h6⟩ := h
  unfold I64
  omega
theorem read_on {D : DS} (ho : D.off = false) (f : Int) (h0 : 0 ≤ f) (h1 : f < 64) : readF D f = fileAt D.files f := by
  unfold readF
  rw [if_neg (by rw [ho]; decide), if_pos (by unfold inF; simp [h0, h1])]
theorem best_fit {D : DS} {m : Mt} (h : Fit D.files m) (ho : D.off = false) : bestN D 2 = m := by
  have r0 : readF D 0 = fileAt D.files 0 := read_on ho 0 (by omega) (by omega)
  have r1 : readF D 1 = fileAt D.files 1 := read_on ho 1 (by omega) (by omega)
  obtain ⟨_, _, _, fl, own, old⟩ := h
  obtain ⟨f, r⟩ := m
  show pickM D (pickM D ⟨1, ⟨0, 0, -1⟩⟩ ((0 : Nat) : Int)) ((1 : Nat) : Int) = _
  unfold pickM
  simp only [Int.ofNat_zero, Int.ofNat_one, Int.natCast_zero, Int.natCast_one]
  rw [r0, r1]
  simp only at fl own old
  rcases own with ⟨hok, ho2⟩ | ⟨he, h1⟩
  · obtain ⟨i1, i2, i3⟩ := hok.i64
    have hr : recF (fileAt D.files f) = some r := by rw [ho2]; exact recF_rec _ _ _ i1 i2 i3 hok
    have ha := hok.1
    rcases (by omega : f = 0 ∨ f = 1) with rfl | rfl
    · rw [hr]
      simp only
      rw [if_pos (by omega)]
      cases h1 : recF (fileAt D.files 1) with
      | none => rfl
      | some r' =>
        have := old r' h1
        simp only
        rw [if_neg (by omega)]
    · rw [hr]
      simp only
      cases h1 : recF (fileAt D.files 0) with
      | none => simp only; rw [if_pos (by omega)]
      | some r' =>
        have := old r' h1
        have := recF_ok h1
        unfold Rec.ok at this
        have hp : 0 < r'.age := by omega
        simp only [if_pos hp]
        rw [if_pos (by omega)]
  · cases he
    rw [h1, recF_nil]
    simp only
    cases h1 : recF (fileAt D.files 0) with
    | none => rfl
    | some r' =>
      have := old r' h1
      have := recF_ok h1
      unfold Rec.ok at this
      simp only at *
      omega
theorem open_fit {D : DS} {m : Mt} (h : Fit D.files m) (ho : D.off = false) (ha : D.armed = 0) (hw : D.wait = []) (hs : D.safe = D.files) : openM D = (0, D) := by
  have s2 : sizeF D 2 = 0 := by unfold sizeF; rw [h.f2]; split <;> rfl
  have s3 : sizeF D 3 = 0 := by unfold sizeF; rw [h.f3]; split <;> rfl
  have c2 : cutIf D 2 = (true, D) := by unfold cutIf; rw [if_neg (by omega)]
  have c3 : cutIf D 3 = (true, D) := by unfold cutIf; rw [if_neg (by omega)]
  have n1 : cN D 1 = D := by show (cutIf D 2).2 = D; rw [c2]
  have n2 : cN D 2 = D := by show (cutIf (cN D 1) 3).2 = D; rw [n1, c3]
  have k2 : okN D 2 = true := by
    show ((true && (cutIf D 2).1) && (cutIf (cN D 1) 3).1) = true
    rw [n1, c2, c3]; rfl
  have hc : countD D = (true, D) := by unfold countD; rw [if_neg (by rw [ho]; decide), if_neg (by omega)]
  have hy : syncD D = (0, D) := by
    unfold syncD
    rw [hc, if_pos rfl]
    simp only
    obtain ⟨q, fs, sf, wt, ar, of⟩ := D
    simp only at hw hs
    subst hw hs
    rfl
  unfold openM
  rw [if_neg (by rw [ho]; decide), if_pos k2, n2, hy, if_pos rfl]
end Go.Proofs.Ytakcdmmniaipeaa
namespace Go.Proofs.Ytakcdmmniaipeaa
open Go.RowKit B
theorem fileAt_setE {F : List (List Int)} {n : Nat} {l : List Int} (h : n < F.length) (f : Int) (hf : f = n) : fileAt (F.set n l) f = l := by
  subst hf
  unfold fileAt
  rw [Int.toNat_natCast, List.getElem?_set_self h]
  rfl
theorem fit_set {fs : List (List Int)} {m : Mt} {l : List Int} (h : Fit fs m) (hl : ∀ r, recF l = some r → r.age < m.r.age) : Fit (fs.set (1 - m.file).toNat l) m := by
  obtain ⟨h64, h2, h3, fl, own, old⟩ := h
  refine ⟨by rw [List.length_set]; exact h64, ?_, ?_, fl, ?_, ?_⟩
  · rw [fileAt_set_ne (by omega) (by omega)]; exact h2
  · rw [fileAt_set_ne (by omega) (by omega)]; exact h3
  · rcases own with ⟨h, e⟩ | ⟨h, e⟩
    · exact .inl ⟨h, by rw [fileAt_set_ne (by omega) (by omega)]; exact e⟩
    · refine .inr ⟨h, ?_⟩
      have : m.file = 1 := by rw [h]
      rw [fileAt_set_ne (by omega) (by omega)]; exact e
  · rw [fileAt_setE (by omega) _ (by omega)]; exact hl
theorem fit_own {fs : List (List Int)} {m : Mt} (h : Fit fs m) : ∀ r, recF (fileAt fs m.file) = some r → r.age ≤ m.r.age := by
  intro r hr
  rcases h.own with ⟨hok, e⟩ | ⟨hm, e⟩
  · obtain ⟨i1, i2, i3⟩ := hok.i64
    rw [e, recF_rec _ _ _ i1 i2 i3 hok] at hr
    cases hr
    exact Int.le_refl _
  · have : m.file = 1 := by rw [hm]
    rw [this, e, recF_nil] at hr
    cases hr
theorem fit_age {fs : List (List Int)} {m : Mt} (h : Fit fs m) : 0 ≤ m.r.age ∧ 0 ≤ m.r.term ∧ m.r.term ≤ 1099511627776 ∧ -1 ≤ m.r.vote ∧ m.r.vote < 7 := by
  rcases h.own with ⟨hok, e⟩ | ⟨hm, e⟩
  · unfold Rec.ok at hok; omega
  · rw [hm]; simp only; omega
theorem fit_new {fs : List (List Int)} {m : Mt} {t v : Int} (h : Fit fs m) (may : mayB m.r.term m.r.vote t v = true) (ha : m.r.age + 1 < 1125899906842624) : Fit (fs.set (1 - m.file).toNat (recB (m.r.age + 1) t v)) ⟨1 - m.file, ⟨m.r.age + 1, t, v⟩⟩ := by
  have ho := fit_own h
  have hg := fit_age h
  obtain ⟨h64, h2, h3, fl, own, old⟩ := h
  have hr : m.r.term ≤ t ∧ t ≤ 1099511627776 ∧ -1 ≤ v ∧ v < 7 := by
    simp only [mayB, Bool.and_eq_true, decide_eq_true_eq] at may
    omega
  refine ⟨by rw [List.length_set]; exact h64, ?_, ?_, by simp only; omega, .inl ⟨?_, ?_⟩, ?_⟩
  · rw [fileAt_set_ne (by omega) (by omega)]; exact h2
  · rw [fileAt_set_ne (by omega) (by omega)]; exact h3
  · unfold Rec.ok; simp only; omega
  · simp only; rw [fileAt_setE (by omega) _ (by omega)]
  · simp only
    rw [fileAt_set_ne (by omega) (by omega)]
    intro r hr
    have e : (1 - (1 - m.file)) = m.file := by omega
    rw [e] at hr
    have := ho r hr
    omega
theorem wrF_nil (p : List Int) : wrF [] 0 p = p := by
  unfold wrF splice zeros
  simp
/-- What waits while the power is off. -/
def Wt (D : DS) (m : Mt) (n : Int) : Prop :=
  D.wait = [] ∨ D.wait = [⟨true, (1 - m.file).toNat, 0, []⟩] ∨ ∃ t v, D.wait = [⟨false, (1 - m.file).toNat, 0, recB (m.r.age + 1) t v⟩] ∧ mayB m.r.term m.r.vote t v = true ∧ m.r.age + 1 ≤ n ∧ fileAt D.safe (1 - m.file) = []
structure Inv (D : DS) (m : Mt) (n : Int) : Prop where
  fit : Fit D.safe m
  age : m.r.age ≤ n
  now : (D.off = false ∧ D.wait = [] ∧ D.files = D.safe) ∨ (D.off = true ∧ Wt D m n)
theorem Inv.wt {D : DS} {m : Mt} {n : Int} (h : Inv D m n) : Wt D m n := by
  rcases h.now with ⟨_, h, _⟩ | ⟨_, h⟩
  · exact .inl h
  · exact h
/-- What a crash leaves is what was, or what was under way. -/
theorem crash_fit {D : DS} {m : Mt} {n : Int} (h : Inv D m n) (hn : n < 1125899906842624) (k z : Int) : ∃ m', Fit (crashD D k z).files m' ∧ m'.r.age ≤ n ∧ (m' = m ∨ ∃ t v, m' = ⟨1 - m.file, ⟨m.r.age + 1, t, v⟩⟩ ∧ mayB m.r.term m.r.vote t v = true) := by
  have fl := h.fit.fl
  show ∃ m', Fit (crN k z (lastK k D.wait.length) D.wait D.safe D.wait.length) m' ∧ _
  rcases h.wt with hw | hw | ⟨t, v, hw, may, ha, he⟩
  · rw [hw]
    exact ⟨m, h.fit, h.age, .inl rfl⟩
  · rw [hw]
    refine ⟨m, ?_, h.age, .inl rfl⟩
    show Fit (crStep k z _ D.safe 0 _) m
    unfold crStep
    split
    · rw [if_pos rfl]
      split
      · refine fit_set h.fit (fun r hr => ?_)
        simp only [List.take_zero] at hr
        rw [recF_nil] at hr
        cases hr
      · exact h.fit
    · exact h.fit
  · rw [hw]
    show ∃ m', Fit (crStep k z _ D.safe 0 _) m' ∧ _
    unfold crStep
    split
    · rw [if_neg Bool.false_ne_true]
      simp only
      rw [show (((1 - m.file).toNat : Nat) : Int) = 1 - m.file by omega, he, wrF_nil]
      unfold tornP
      split
      · rename_i hc
        refine ⟨m, fit_set h.fit (fun r hr => ?_), h.age, .inl rfl⟩
        rw [recF_cut _ _ _ _ (by omega)] at hr
        cases hr
      · exact ⟨_, fit_new h.fit may (by omega), ha, .inr ⟨t, v, rfl, may⟩⟩
    · exact ⟨m, h.fit, h.age, .inl rfl⟩
/-- And Open of it. -/
theorem crash_open {D : DS} {m : Mt} {n : Int} (h : Inv D m n) (hn : n < 1125899906842624) (k z : Int) : ∃ m', openM (crashD D k z) = (0, crashD D k z) ∧ bestN (crashD D k z) 2 = m' ∧ Inv (crashD D k z) m' n ∧ (m' = m ∨ ∃ t v, m' = ⟨1 - m.file, ⟨m.r.age + 1, t, v⟩⟩ ∧ mayB m.r.term m.r.vote t v = true) := by
  obtain ⟨m', h1, h2, h3⟩ := crash_fit h hn k z
  exact ⟨m', open_fit h1 rfl rfl rfl rfl, best_fit h1 rfl, ⟨h1, h2, .inl ⟨rfl, rfl, rfl⟩⟩, h3⟩
end Go.Proofs.Ytakcdmmniaipeaa
namespace Go.Proofs.Ytakcdmmniaipeaa
open Go.RowKit B
theorem Inv.mono {D : DS} {m : Mt} {n n' : Int} (h : Inv D m n) (hn : n ≤ n') : Inv D m n' := by
  obtain ⟨h1, h2, h3⟩ := h
  refine ⟨h1, by omega, h3.imp id fun ⟨a, b⟩ => ⟨a, ?_⟩⟩
  rcases b with b | b | ⟨t, v, b1, b2, b3, b4⟩
  · exact .inl b
  · exact .inr (.inl b)
  · exact .inr (.inr ⟨t, v, b1, b2, by omega, b4⟩)
theorem count_cases (D : DS) : (D.off = true ∧ countD D = (false, D)) ∨ (D.off = false ∧ ((∃ a, countD D = (true, { D with armed := a })) ∨ (∃ a, countD D = (false, { D with armed := a, off := true })))) := by
  cases ho : D.off with
  | true => exact .inl ⟨rfl, by unfold countD; rw [if_pos ho]⟩
  | false =>
    refine .inr ⟨rfl, ?_⟩
    unfold countD
    rw [if_neg (by rw [ho]; decide)]
    split
    · by_cases e : D.armed - 1 = 0
      · exact .inr ⟨D.armed - 1, by simp [e]⟩
      · exact .inl ⟨D.armed - 1, by obtain ⟨q, fs, sf, wt, ar, of⟩ := D; simp only at ho e ⊢; subst ho; simp [e]⟩
    · exact .inl ⟨D.armed, by obtain ⟨q, fs, sf, wt, ar, of⟩ := D; simp only at ho ⊢; subst ho; rfl⟩
/-- A disk that is on, with nothing that waits, and one with a change that waits. -/
def On (D : DS) : Prop := D.off = false ∧ D.wait = [] ∧ D.files = D.safe
theorem arm_inv {D : DS} {m : Mt} {n : Int} (h : Inv D m n) (k : Int) : Inv (armD D k) m n := by
  unfold armD
  split
  · exact h
  · obtain ⟨h1, h2, h3⟩ := h
    exact ⟨h1, h2, h3⟩
theorem size_zero {D : DS} {f : Int} (h0 : 0 ≤ f) (h1 : f < 64) (h : ¬ 0 < sizeF D f) : fileAt D.files f = [] := by
  unfold sizeF at h
  rw [if_pos (by unfold inF; simp [h0, h1])] at h
  exact List.length_eq_zero_iff.1 (by omega)
theorem clear_inv {D : DS} {m : Mt} {n : Int} (h : Inv D m n) : Inv (clearD D (1 - m.file)).2 m n ∧ ((clearD D (1 - m.file)).2.off = false → (clearD D (1 - m.file)).1 = 0 → fileAt (clearD D (1 - m.file)).2.safe (1 - m.file) = []) := by
  have fl := h.fit.fl
  have h64 := h.fit.f64
  unfold clearD
  split
  · rename_i hs
    rcases count_cases D with ⟨ho, hc⟩ | ⟨ho, ⟨a, hc⟩ | ⟨a, hc⟩⟩
    · have e : cutD D (1 - m.file) 0 = (11, D) := by unfold cutD; rw [hc]; rfl
      rw [e, if_neg (by simp)]
      exact ⟨h, fun q => by rw [ho] at q; cases q⟩
    · rcases h.now with ⟨_, hw, hf⟩ | ⟨q, _⟩
      · have e : cutD D (1 - m.file) 0 = (0, { D with armed := a, files := D.files.set (1 - m.file).toNat [], wait := [⟨true, (1 - m.file).toNat, 0, []⟩] }) := by
          unfold cutD
          rw [hc, if_pos rfl, if_pos (by unfold cutOk inF; simp; omega)]
          simp [hw]
        rw [e, if_pos rfl]
        simp only
        obtain ⟨E, hE⟩ : ∃ E : DS, E = { D with armed := a, files := D.files.set (1 - m.file).toNat [], wait := [⟨true, (1 - m.file).toNat, 0, []⟩] } := ⟨_, rfl⟩
        rw [← hE]
        rcases count_cases E with ⟨ho2, _⟩ | ⟨_, ⟨b, hc2⟩ | ⟨b, hc2⟩⟩
        · rw [hE] at ho2; rw [ho] at ho2; cases ho2
        · have e2 : syncD E = (0, { E with armed := b, safe := E.files, wait := [] }) := by unfold syncD; rw [hc2]; rfl
          rw [e2, hE]
          refine ⟨⟨?_, h.age, .inl ⟨ho, rfl, rfl⟩⟩, fun _ _ => ?_⟩
          · show Fit (D.files.set _ _) m
            rw [hf]
            exact fit_set h.fit (fun r hr => by rw [recF_nil] at hr; cases hr)
          · show fileAt (D.files.set _ _) _ = []
            rw [hf]
            exact fileAt_setE (by omega) _ (by omega)
        · have e2 : syncD E = (11, { E with armed := b, off := true }) := by unfold syncD; rw [hc2]; rfl
          rw [e2, hE]
          exact ⟨⟨h.fit, h.age, .inr ⟨rfl, .inr (.inl rfl)⟩⟩, fun q => by cases q⟩
      · rw [ho] at q; cases q
    · have e : cutD D (1 - m.file) 0 = (11, { D with armed := a, off := true }) := by unfold cutD; rw [hc]; rfl
      rw [e, if_neg (by simp)]
      refine ⟨⟨h.fit, h.age, .inr ⟨rfl, ?_⟩⟩, fun q => by cases q⟩
      rcases h.now with ⟨_, hw, hf⟩ | ⟨q, _⟩
      · exact .inl hw
      · rw [ho] at q; cases q
  · rename_i hs
    refine ⟨h, fun ho _ => ?_⟩
    rcases h.now with ⟨_, hw, hf⟩ | ⟨q, _⟩
    · rw [← hf]; exact size_zero (by omega) (by omega) hs
    · rw [ho] at q; cases q
theorem set_inv {D : DS} {m : Mt} {n : Int} (t v : Int) (h : Inv D m n) (hn : n < 1000000) : Inv (setM D m t v).2.1 (setM D m t v).2.2 (n + 1) ∧ ((setM D m t v).2.2 = m ∨ ((setM D m t v).2.2 = ⟨1 - m.file, ⟨m.r.age + 1, t, v⟩⟩ ∧ mayB m.r.term m.r.vote t v = true)) := by
  have fl := h.fit.fl
  have h64 := h.fit.f64
  have hage := h.age
  have hag : m.r.age ≤ n + 1 := by omega
  have hag1 : m.r.age + 1 ≤ n + 1 := by omega
  by_cases may : mayB m.r.term m.r.vote t v = true
  · unfold setM
    rw [if_pos may]
    have hcl := clear_inv h
    obtain ⟨⟨y, E⟩, hE⟩ : ∃ x, x = clearD D (1 - m.file) := ⟨_, rfl⟩
    rw [← hE] at hcl ⊢
    simp only at hcl ⊢
    obtain ⟨hi, he⟩ := hcl
    by_cases hy : y = 0
    · rw [if_pos hy]
      have f64 := hi.fit.f64
      rcases count_cases E with ⟨ho, hc⟩ | ⟨ho, ⟨a, hc⟩ | ⟨a, hc⟩⟩
      · have e : writeD E (1 - m.file) 0 (recB (m.r.age + 1) t v) = (11, E) := by unfold writeD; rw [hc]; rfl
        rw [e, if_neg (by simp)]
        exact ⟨hi.mono (by omega), .inl rfl⟩
      · rcases hi.now with ⟨_, hw, hf⟩ | ⟨q, _⟩
        · have hem := he ho hy
          have hat : atOk (1 - m.file) 0 = true := by unfold atOk inF; simp; omega
          by_cases hfu : fullD { E with armed := a } (1 - m.file) 0 (recB (m.r.age + 1) t v) = true
          · have e : writeD E (1 - m.file) 0 (recB (m.r.age + 1) t v) = (10, { E with armed := a }) := by unfold writeD; rw [hc, if_pos rfl, if_pos hat, if_pos hfu]
            rw [e, if_neg (by simp)]
            exact ⟨⟨hi.fit, hag, .inl ⟨ho, hw, hf⟩⟩, .inl rfl⟩
          · have e : writeD E (1 - m.file) 0 (recB (m.r.age + 1) t v) = (0, { E with armed := a, files := E.files.set (1 - m.file).toNat (recB (m.r.age + 1) t v), wait := [⟨false, (1 - m.file).toNat, 0, recB (m.r.age + 1) t v⟩] }) := by
              unfold writeD
              rw [hc, if_pos rfl, if_pos hat, if_neg hfu]
              simp only [hw, hf, hem]
              rw [show (0 : Int).toNat = 0 from rfl, wrF_nil]
              rfl
            rw [e, if_pos rfl]
            simp only
            obtain ⟨G, hG⟩ : ∃ G : DS, G = { E with armed := a, files := E.files.set (1 - m.file).toNat (recB (m.r.age + 1) t v), wait := [⟨false, (1 - m.file).toNat, 0, recB (m.r.age + 1) t v⟩] } := ⟨_, rfl⟩
            rw [← hG]
            rcases count_cases G with ⟨ho2, _⟩ | ⟨_, ⟨b, hc2⟩ | ⟨b, hc2⟩⟩
            · rw [hG] at ho2; rw [ho] at ho2; cases ho2
            · have e2 : syncD G = (0, { G with armed := b, safe := G.files, wait := [] }) := by unfold syncD; rw [hc2]; rfl
              rw [e2, if_pos rfl, hG]
              refine ⟨⟨?_, hag1, .inl ⟨ho, rfl, rfl⟩⟩, .inr ⟨rfl, may⟩⟩
              show Fit (E.files.set _ _) _
              rw [hf]
              exact fit_new hi.fit may (by omega)
            · have e2 : syncD G = (11, { G with armed := b, off := true }) := by unfold syncD; rw [hc2]; rfl
              rw [e2, if_neg (by simp), hG]
              exact ⟨⟨hi.fit, hag, .inr ⟨rfl, .inr (.inr ⟨t, v, rfl, may, hag1, hem⟩)⟩⟩, .inl rfl⟩
        · rw [ho] at q; cases q
      · have e : writeD E (1 - m.file) 0 (recB (m.r.age + 1) t v) = (11, { E with armed := a, off := true }) := by unfold writeD; rw [hc]; rfl
        rw [e, if_neg (by simp)]
        refine ⟨⟨hi.fit, hag, .inr ⟨rfl, ?_⟩⟩, .inl rfl⟩
        rcases hi.now with ⟨_, hw, hf⟩ | ⟨q, _⟩
        · exact .inl hw
        · rw [ho] at q; cases q
    · rw [if_neg hy]
      exact ⟨hi.mono (by omega), .inl rfl⟩
  · unfold setM
    rw [if_neg may]
    exact ⟨h.mono (by omega), .inl rfl⟩
end Go.Proofs.Ytakcdmmniaipeaa
namespace Go.Proofs.Ytakcdmmniaipeaa
open Go.RowKit B
theorem fit_empty : Fit (List.replicate 64 []) ⟨1, ⟨0, 0, -1⟩⟩ := by
  have e : ∀ f : Int, 0 ≤ f → f < 64 → fileAt (List.replicate 64 []) f = [] := by
    intro f h0 h1
    unfold fileAt
    rw [List.getElem?_replicate]
    split <;> rfl
  refine ⟨List.length_replicate, e 2 (by omega) (by omega), e 3 (by omega) (by omega), by simp only; omega, .inr ⟨rfl, e 1 (by omega) (by omega)⟩, ?_⟩
  intro r hr
  rw [e _ (by simp only; omega) (by simp only; omega), recF_nil] at hr
  cases hr
theorem inv_empty (q : Int) : Inv (emptyD q) ⟨1, ⟨0, 0, -1⟩⟩ 0 := ⟨fit_empty, by simp only; omega, .inl ⟨rfl, rfl, rfl⟩⟩
theorem open_empty (q : Int) : openM (emptyD q) = (0, emptyD q) ∧ bestN (emptyD q) 2 = ⟨1, ⟨0, 0, -1⟩⟩ := ⟨open_fit (m := ⟨1, ⟨0, 0, -1⟩⟩) fit_empty rfl rfl rfl rfl, best_fit (m := ⟨1, ⟨0, 0, -1⟩⟩) fit_empty rfl⟩
theorem Inv.wl {D : DS} {m : Mt} {n : Int} (h : Inv D m n) : D.wait.length ≤ 1 := by
  rcases h.wt with hw | hw | ⟨t, v, hw, _⟩
  · rw [hw]; simp
  · rw [hw]; simp
  · rw [hw]; simp
/-- The law's test. -/
theorem once_test {m m' : Mt} {t v : Int} (h : m' = m ∨ (m' = ⟨1 - m.file, ⟨m.r.age + 1, t, v⟩⟩ ∧ mayB m.r.term m.r.vote t v = true)) : ¬ m'.r.term < m.r.term ∧ (m'.r.term = m.r.term → m.r.vote ≠ -1 → m'.r.vote = m.r.vote) := by
  rcases h with rfl | ⟨rfl, may⟩
  · exact ⟨Int.lt_irrefl _, fun _ _ => rfl⟩
  · simp only [mayB, Bool.and_eq_true, Bool.or_eq_true, decide_eq_true_eq] at may
    simp only
    obtain ⟨⟨⟨⟨a, b⟩, c⟩, d⟩, e⟩ := may
    refine ⟨by omega, fun h1 h2 => ?_⟩
    rcases e with (e | e) | e
    · omega
    · exact absurd e h2
    · exact e
end Go.Proofs.Ytakcdmmniaipeaa
