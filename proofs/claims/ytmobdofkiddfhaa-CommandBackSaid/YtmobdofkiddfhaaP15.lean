/- Chapter 15 in plain Lean: a request's text is read back; what is cut off ends too early; what a text is read as is right, and its text is that. -/
import Derived.Test.YtmobdofkiddfhaaCmdDa
import Derived.Test.YtmobdofkiddfhaaPF
set_option linter.unusedVariables false
set_option linter.unusedSimpArgs false
namespace Go.Proofs.Ytmobdofkiddfhaa
open Go.RowKit B
def fO : List It := [.n, .n, .n, .n, .n, .n, .n, .n, .n, .n]
def fD : List It := [.n, .n, .n, .n, .n, .f]
def ordL (o : Ord) : List Int := [o.id, o.size, o.pick.p, o.pick.f, o.pick.t, o.pick.s, o.drop.p, o.drop.f, o.drop.t, o.drop.s]
def drvL (d : Drv) : List Int := [d.id, d.room, d.home, d.f, d.t, if d.ret = true then 1 else 0]
theorem encF_ord (o : Ord) : encF fO (ordL o) = encOrd o := by simp [encF, fO, ordL, encIt, encOrd, encSite]
theorem encF_drv (d : Drv) : encF fD (drvL d) = encDrv d := by cases h : d.ret <;> simp [encF, fD, drvL, encIt, encDrv, encB, h]
theorem okF_ord (o : Ord) : okF fO (ordL o) ↔ o.ok := by simp [okF, okI, fO, ordL, Ord.ok, Site.ok, and_assoc]
theorem okF_drv (d : Drv) : okF fD (drvL d) ↔ d.ok := by cases h : d.ret <;> simp [okF, okI, fD, drvL, Drv.ok, h]
theorem rd_ord (l : List Int) (s : RS) : rdF l fO s = (ordL (ordG l s).1, (ordG l s).2) := rfl
theorem rd_drv (l : List Int) (s : RS) : rdF l fD s = (drvL (drvG l s).1, (drvG l s).2) := rfl
theorem rd_num (l : List Int) (s : RS) : rdF l [.n] s = ([(NumR l s).1], (NumR l s).2) := rfl
theorem encF_app : ∀ (a : List It) (va : List Int) (b : List It) (vb : List Int), va.length = a.length → encF (a ++ b) (va ++ vb) = encF a va ++ encF b vb
  | [], [], b, vb, _ => rfl
  | [], _ :: _, b, vb, h => by simp at h
  | _ :: _, [], b, vb, h => by simp at h
  | i :: r, v :: vs, b, vb, h => by
    simp only [List.cons_append, encF, encF_app r vs b vb (by simpa using h), List.append_assoc]
theorem okF_app : ∀ (a : List It) (va : List Int) (b : List It) (vb : List Int), va.length = a.length → (okF (a ++ b) (va ++ vb) ↔ okF a va ∧ okF b vb)
  | [], [], b, vb, _ => by simp [okF]
  | [], _ :: _, b, vb, h => by simp at h
  | _ :: _, [], b, vb, h => by simp at h
  | i :: r, v :: vs, b, vb, h => by
    simp only [List.cons_append, okF, okF_app r vs b vb (by simpa using h), and_assoc]
def gO (m : Nmd) : List It := if m.o = true then fO else []
def gD (m : Nmd) : List It := if m.d = true then fD else []
def gI (m : Nmd) : List It := if m.i = true then [.n] else []
def gC (m : Nmd) : List It := if m.c = true then [.n] else []
def hO (m : Nmd) (c : Cmd) : List Int := if m.o = true then ordL c.o else []
def hD (m : Nmd) (c : Cmd) : List Int := if m.d = true then drvL c.d else []
def hI (m : Nmd) (c : Cmd) : List Int := if m.i = true then [c.id] else []
def hC (m : Nmd) (c : Cmd) : List Int := if m.c = true then [c.count] else []
def fm (m : Nmd) : List It := gO m ++ (gD m ++ (gI m ++ gC m))
def vl (m : Nmd) (c : Cmd) : List Int := hO m c ++ (hD m c ++ (hI m c ++ hC m c))
theorem lO (m : Nmd) (c : Cmd) : (hO m c).length = (gO m).length := by unfold hO gO; split <;> rfl
theorem lD (m : Nmd) (c : Cmd) : (hD m c).length = (gD m).length := by unfold hD gD; split <;> rfl
theorem lI (m : Nmd) (c : Cmd) : (hI m c).length = (gI m).length := by unfold hI gI; split <;> rfl
theorem lC (m : Nmd) (c : Cmd) : (hC m c).length = (gC m).length := by unfold hC gC; split <;> rfl
theorem encF_fm (c : Cmd) : encF (fm (nmd c.kind)) (vl (nmd c.kind) c) = encK c := by
  unfold fm vl encK
  rw [encF_app _ _ _ _ (lO _ _), encF_app _ _ _ _ (lD _ _), encF_app _ _ _ _ (lI _ _)]
  congr 1
  · unfold gO hO; split
    · exact encF_ord _
    · rfl
  congr 1
  · unfold gD hD; split
    · exact encF_drv _
    · rfl
  congr 1
  · unfold gI hI; split
    · simp [encF, encIt]
    · rfl
  · unfold gC hC; split
    · simp [encF, encIt]
    · rfl
theorem okF_fm {c : Cmd} (h : c.ok) : okF (fm (nmd c.kind)) (vl (nmd c.kind) c) := by
  unfold fm vl
  rw [okF_app _ _ _ _ (lO _ _), okF_app _ _ _ _ (lD _ _), okF_app _ _ _ _ (lI _ _)]
  refine ⟨?_, ?_, ?_, ?_⟩
  · unfold gO hO; split
    · exact (okF_ord _).2 h.2.1
    · trivial
  · unfold gD hD; split
    · exact (okF_drv _).2 h.2.2.1
    · trivial
  · unfold gI hI; split
    · exact ⟨h.2.2.2.1, trivial⟩
    · trivial
  · unfold gC hC; split
    · exact ⟨h.2.2.2.2, trivial⟩
    · trivial
/-! ### reading -/
theorem p4 (l : List Int) (k : Int) (s : RS) : (o4 l k s).2 = (rdF l (gO (nmd k)) s).2 ∧ ((o4 l k s).2.fe = 0 → (rdF l (gO (nmd k)) s).1 = if (nmd k).o = true then ordL (o4 l k s).1 else []) := by
  unfold o4 gO
  split
  · rw [rd_ord]
    unfold ordR
    split
    · exact ⟨rfl, fun _ => rfl⟩
    · rename_i h; exact ⟨rfl, fun a => absurd a h⟩
  · exact ⟨rfl, fun _ => rfl⟩
theorem p5 (l : List Int) (k : Int) (s : RS) : (o5 l k s).2 = (rdF l (gD (nmd k)) s).2 ∧ ((o5 l k s).2.fe = 0 → (rdF l (gD (nmd k)) s).1 = if (nmd k).d = true then drvL (o5 l k s).1 else []) := by
  unfold o5 gD
  split
  · rw [rd_drv]
    unfold drvR
    split
    · exact ⟨rfl, fun _ => rfl⟩
    · rename_i h; exact ⟨rfl, fun a => absurd a h⟩
  · exact ⟨rfl, fun _ => rfl⟩
theorem p6 (l : List Int) (k : Int) (s : RS) : (o6 l k s).2 = (rdF l (gI (nmd k)) s).2 ∧ ((o6 l k s).2.fe = 0 → (rdF l (gI (nmd k)) s).1 = if (nmd k).i = true then [(o6 l k s).1] else []) := by
  unfold o6 gI
  split
  · exact ⟨rfl, fun _ => rfl⟩
  · exact ⟨rfl, fun _ => rfl⟩
theorem p7 (l : List Int) (k : Int) (s : RS) : (o7 l k s).2 = (rdF l (gC (nmd k)) s).2 ∧ ((o7 l k s).2.fe = 0 → (rdF l (gC (nmd k)) s).1 = if (nmd k).c = true then [(o7 l k s).1] else []) := by
  unfold o7 gC
  split
  · exact ⟨rfl, fun _ => rfl⟩
  · exact ⟨rfl, fun _ => rfl⟩
theorem fe_back {l : List Int} {f : List It} {s : RS} (h : (rdF l f s).2.fe = 0) : s.fe = 0 := Classical.byContradiction fun a => by rw [rdF_bad f a] at h; exact a h
theorem decS_rd (l : List Int) (k : Int) (s : RS) : (decS l k s).2 = (rdF l (fm (nmd k)) s).2 ∧ ((decS l k s).2.fe = 0 → (rdF l (fm (nmd k)) s).1 = vl (nmd k) (decS l k s).1) := by
  obtain ⟨a1, b1⟩ := p4 l k s
  obtain ⟨a2, b2⟩ := p5 l k (o4 l k s).2
  obtain ⟨a3, b3⟩ := p6 l k (o5 l k (o4 l k s).2).2
  obtain ⟨a4, b4⟩ := p7 l k (o6 l k (o5 l k (o4 l k s).2).2).2
  unfold fm
  simp only [rdF_app]
  rw [← a1, ← a2, ← a3]
  refine ⟨a4, fun hf => ?_⟩
  have hf4 : (o7 l k (o6 l k (o5 l k (o4 l k s).2).2).2).2.fe = 0 := hf
  have hf3 : (o6 l k (o5 l k (o4 l k s).2).2).2.fe = 0 := fe_back (by rw [← a4]; exact hf4)
  have hf2 : (o5 l k (o4 l k s).2).2.fe = 0 := fe_back (by rw [← a3]; exact hf3)
  have hf1 : (o4 l k s).2.fe = 0 := fe_back (by rw [← a2]; exact hf2)
  rw [b1 hf1, b2 hf2, b3 hf3, b4 hf4]
  rfl
theorem hd_rd (l : List Int) : rdF l [.n, .n, .n] ⟨0, 0, 0⟩ = ([(d1 l).1, (d2 l).1, (d3 l).1], (d3 l).2) := rfl
/-! ### what is not named is nothing -/
theorem Site.z_eq {s : Site} (h : s.z = true) : s = site0 := by
  cases s
  simp only [Site.z, Bool.and_eq_true, beq_iff_eq] at h
  obtain ⟨rfl, rfl, rfl, rfl⟩ := h
  rfl
theorem Ord.z_eq {o : Ord} (h : o.z = true) : o = ord0 := by
  cases o
  simp only [Ord.z, Bool.and_eq_true, beq_iff_eq] at h
  obtain ⟨rfl, rfl, h1, h2⟩ := h
  rw [Site.z_eq h1, Site.z_eq h2]
  rfl
theorem Drv.z_eq {d : Drv} (h : d.z = true) : d = drv0 := by
  cases d
  simp only [Drv.z, Bool.and_eq_true, beq_iff_eq, Bool.not_eq_true'] at h
  obtain ⟨rfl, rfl, rfl, rfl, rfl, rfl⟩ := h
  rfl
theorem ordL_inj {a b : Ord} (h : ordL a = ordL b) : a = b := by
  simp only [ordL, List.cons.injEq, and_true] at h
  obtain ⟨h0, h1, h2, h3, h4, h5, h6, h7, h8, h9⟩ := h
  cases a with | mk i s p d => cases b with | mk i' s' p' d' => cases p; cases d; cases p'; cases d'; simp_all
theorem drvL_inj {a b : Drv} (h : drvL a = drvL b) : a = b := by
  simp only [drvL, List.cons.injEq, and_true] at h
  obtain ⟨h0, h1, h2, h3, h4, h5⟩ := h
  cases a with | mk i r hm f t x => cases b with | mk i' r' hm' f' t' x' => cases x <;> cases x' <;> simp_all
theorem vl_inj {c c' : Cmd} (hk : c.kind = c'.kind) (h1 : rightB c = true) (h2 : rightB c' = true) (h : vl (nmd c.kind) c = vl (nmd c.kind) c') : c = c' := by
  unfold rightB at h1 h2
  rw [← hk] at h2
  simp only [Bool.and_eq_true, Bool.or_eq_true] at h1 h2
  obtain ⟨_, o1, d1, i1, n1⟩ := h1
  obtain ⟨_, o2, d2, i2, n2⟩ := h2
  unfold vl at h
  obtain ⟨e1, h⟩ := List.append_inj h ((lO _ _).trans (lO _ _).symm)
  obtain ⟨e2, h⟩ := List.append_inj h ((lD _ _).trans (lD _ _).symm)
  obtain ⟨e3, e4⟩ := List.append_inj h ((lI _ _).trans (lI _ _).symm)
  have ho : c.o = c'.o := by
    unfold hO at e1
    by_cases b : (nmd c.kind).o = true
    · rw [if_pos b, if_pos b] at e1; exact ordL_inj e1
    · rw [Ord.z_eq (o1.resolve_left b), Ord.z_eq (o2.resolve_left b)]
  have hd : c.d = c'.d := by
    unfold hD at e2
    by_cases b : (nmd c.kind).d = true
    · rw [if_pos b, if_pos b] at e2; exact drvL_inj e2
    · rw [Drv.z_eq (d1.resolve_left b), Drv.z_eq (d2.resolve_left b)]
  have hi : c.id = c'.id := by
    unfold hI at e3
    by_cases b : (nmd c.kind).i = true
    · rw [if_pos b, if_pos b] at e3; simpa using e3
    · have x1 := i1.resolve_left b; have x2 := i2.resolve_left b
      simp only [beq_iff_eq] at x1 x2
      rw [x1, x2]
  have hn : c.count = c'.count := by
    unfold hC at e4
    by_cases b : (nmd c.kind).c = true
    · rw [if_pos b, if_pos b] at e4; simpa using e4
    · have x1 := n1.resolve_left b; have x2 := n2.resolve_left b
      simp only [beq_iff_eq] at x1 x2
      rw [x1, x2]
  cases c; cases c'; simp_all
theorem right_dec (l : List Int) (k : Int) (s : RS) (h : (nmd k).ok = true) : rightB (decS l k s).1 = true := by
  have e : (decS l k s).1.kind = k := rfl
  unfold rightB
  rw [e, h]
  have z0 : Ord.z ord0 = true := rfl
  have z1 : Drv.z drv0 = true := rfl
  simp only [decS, o4, o5, o6, o7]
  cases (nmd k).o <;> cases (nmd k).d <;> cases (nmd k).i <;> cases (nmd k).c <;> simp [z0, z1]
theorem rightB_ok {c : Cmd} (h : rightB c = true) : (nmd c.kind).ok = true := by
  unfold rightB at h
  simp only [Bool.and_eq_true] at h
  exact h.1
theorem nmd_len {k : Int} (h : (nmd k).ok = true) (c : Cmd) : 1 ≤ (fm (nmd k)).length := by
  unfold nmd at h ⊢
  repeat' split at h
  all_goals simp_all [fm, gO, gD, gI, gC, fO, fD]
/-! ### the laws -/
theorem encR_eq {q : Rq} (h : rightB q.c = true) : encR q = encF ([.n, .n, .n] ++ fm (nmd q.c.kind)) ([q.ses, q.seq, q.c.kind] ++ vl (nmd q.c.kind) q.c) := by
  rw [encF_app _ _ _ _ rfl, encF_fm]
  unfold encR
  rw [if_pos h]
  simp [encF, encIt]
theorem okF_all {q : Rq} (h : q.ok) : okF ([.n, .n, .n] ++ fm (nmd q.c.kind)) ([q.ses, q.seq, q.c.kind] ++ vl (nmd q.c.kind) q.c) := by
  rw [okF_app _ _ _ _ rfl]
  exact ⟨⟨h.1, h.2.1, h.2.2.1, trivial⟩, okF_fm h.2.2⟩
theorem rd_all {q : Rq} {l rest : List Int} (hr : rightB q.c = true) (hq : q.ok) (hl : l = encR q ++ rest) :
    d1 l = (q.ses, (d1 l).2) ∧ d2 l = (q.seq, (d2 l).2) ∧ (d3 l).1 = q.c.kind ∧ (d3 l).2.fe = 0 ∧ decS l q.c.kind (d3 l).2 = (q.c, ⟨(encR q).length, 0, 0⟩) := by
  have h0 := rdF_back (l := l) (s := ⟨0, 0, 0⟩) (rest := rest) rfl (okF_all hq) (by rw [← encR_eq hr]; simpa using hl)
  rw [rdF_app, hd_rd, ← encR_eq hr] at h0
  simp only [Prod.mk.injEq] at h0
  obtain ⟨h1, h2⟩ := h0
  obtain ⟨h3, h4⟩ := List.append_inj h1 rfl
  simp only [List.cons.injEq, and_true] at h3
  obtain ⟨e1, e2, e3⟩ := h3
  obtain ⟨a, b⟩ := decS_rd l q.c.kind (d3 l).2
  have hst : (decS l q.c.kind (d3 l).2).2 = ⟨(encR q).length, 0, 0⟩ := by rw [a, h2]; simp
  have hfe : (d3 l).2.fe = 0 := fe_back (l := l) (f := fm (nmd q.c.kind)) (by rw [h2])
  have hv := b (by rw [hst])
  rw [h4] at hv
  refine ⟨by rw [← e1], by rw [← e2], e3, hfe, ?_⟩
  have hc : (decS l q.c.kind (d3 l).2).1 = q.c := (vl_inj (c := q.c) (c' := (decS l q.c.kind (d3 l).2).1) rfl hr (right_dec l q.c.kind (d3 l).2 (rightB_ok hr)) hv).symm
  exact Prod.ext hc hst
theorem back15 {q : Rq} (hr : rightB q.c = true) (hq : q.ok) : decR (encR q) = (q, 0) := by
  obtain ⟨e1, e2, e3, hf, e4⟩ := rd_all (q := q) (l := encR q) (rest := []) hr hq (by simp)
  unfold decR
  rw [e3, if_neg (by rw [rightB_ok hr]; exact fun a => by cases a.2), e4, e1, e2]
  unfold decE EndR
  simp
theorem tail15 {q : Rq} (hr : rightB q.c = true) (hq : q.ok) (x : Int) : (decR (encR q ++ [x])).2 = 5 := by
  obtain ⟨e1, e2, e3, hf, e4⟩ := rd_all (q := q) (l := encR q ++ [x]) (rest := [x]) hr hq rfl
  unfold decR
  rw [e3, if_neg (by rw [rightB_ok hr]; exact fun a => by cases a.2), e4]
  unfold decE EndR
  simp
theorem len15 {q : Rq} (hr : rightB q.c = true) (hq : q.ok) : 4 ≤ (encR q).length := by
  rw [encR_eq hr]
  have h := encF_ge ([.n, .n, .n] ++ fm (nmd q.c.kind)) ([q.ses, q.seq, q.c.kind] ++ vl (nmd q.c.kind) q.c) (okF_len (okF_all hq))
  have := nmd_len (rightB_ok hr) q.c
  rw [List.length_append] at h
  simp only [List.length_cons, List.length_nil] at h
  omega
theorem byt15 {q : Rq} (hr : rightB q.c = true) (hq : q.ok) : Byt (encR q) := by
  rw [encR_eq hr]
  exact byt_encF (okF_all hq)
theorem end_bad {l : List Int} {s : RS} (h : ¬ s.fe = 0) : EndR l s = s := by unfold EndR; rw [if_neg (fun a => h a.1)]
theorem cut15 {q : Rq} (hr : rightB q.c = true) (hq : q.ok) (j : Nat) (hj : j < (encR q).length) : (decR ((encR q).take j)).2 = 3 := by
  have hok : okF [.n, .n, .n] [q.ses, q.seq, q.c.kind] := ⟨hq.1, hq.2.1, hq.2.2.1, trivial⟩
  have he : encR q = encF [.n, .n, .n] [q.ses, q.seq, q.c.kind] ++ encF (fm (nmd q.c.kind)) (vl (nmd q.c.kind) q.c) := by rw [encR_eq hr, encF_app _ _ _ _ rfl]
  obtain ⟨l, hl⟩ : ∃ l, l = (encR q).take j := ⟨_, rfl⟩
  rw [← hl]
  have ht : l = (encF [.n, .n, .n] [q.ses, q.seq, q.c.kind]).take j ++ (encF (fm (nmd q.c.kind)) (vl (nmd q.c.kind) q.c)).take (j - (encF [.n, .n, .n] [q.ses, q.seq, q.c.kind]).length) := by rw [hl, he, List.take_append]
  by_cases hlt : j < (encF [.n, .n, .n] [q.ses, q.seq, q.c.kind]).length
  · rw [show j - (encF [.n, .n, .n] [q.ses, q.seq, q.c.kind]).length = 0 by omega, List.take_zero, List.append_nil] at ht
    have h3 := rdF_cut (l := l) (s := ⟨0, 0, 0⟩) (j := j) rfl hok hlt (by simpa using ht)
    rw [hd_rd] at h3
    simp only at h3
    have hne : ¬ (d3 l).2.fe = 0 := by omega
    unfold decR
    rw [if_neg (fun a => hne a.1)]
    have hs : (decS l (d3 l).1 (d3 l).2).2 = (d3 l).2 := by rw [(decS_rd l (d3 l).1 (d3 l).2).1, rdF_bad _ hne]
    unfold decE
    rw [hs, end_bad hne, if_neg hne]
    exact h3
  · rw [List.take_of_length_le (by omega)] at ht
    have h3 := rdF_back (l := l) (s := ⟨0, 0, 0⟩) (rest := (encF (fm (nmd q.c.kind)) (vl (nmd q.c.kind) q.c)).take (j - (encF [.n, .n, .n] [q.ses, q.seq, q.c.kind]).length)) rfl hok (by simpa using ht)
    rw [hd_rd] at h3
    simp only [Prod.mk.injEq, List.cons.injEq, and_true] at h3
    obtain ⟨⟨e1, e2, e3⟩, e4⟩ := h3
    have hd : l.drop (d3 l).2.pos = (encF (fm (nmd q.c.kind)) (vl (nmd q.c.kind) q.c)).take (j - (encF [.n, .n, .n] [q.ses, q.seq, q.c.kind]).length) := by
      rw [e4]
      simp only [Nat.zero_add]
      conv => lhs; rw [ht]
      rw [List.drop_left]
    have hf : (d3 l).2.fe = 0 := by rw [e4]
    have h5 := rdF_cut (l := l) (s := (d3 l).2) (j := j - (encF [.n, .n, .n] [q.ses, q.seq, q.c.kind]).length) hf (okF_fm hq.2.2) (by rw [he, List.length_append] at hj; omega) hd
    unfold decR
    rw [e3, if_neg (by rw [rightB_ok hr]; exact fun a => by cases a.2)]
    have hs := (decS_rd l q.c.kind (d3 l).2).1
    rw [← hs] at h5
    have hne : ¬ (decS l q.c.kind (d3 l).2).2.fe = 0 := by omega
    unfold decE
    rw [end_bad hne, if_neg hne]
    exact h5
theorem bad15 {l : List Int} (h : ¬ (decR l).2 = 0) : (decR l).1 = rq0 := by
  unfold decR at h ⊢
  split
  · rfl
  · rename_i hn
    rw [if_neg hn] at h
    unfold decE at h ⊢
    split
    · rename_i he; rw [if_pos he] at h; exact absurd rfl h
    · rfl
theorem good15 {l : List Int} (hb : Byt l) (h : (decR l).2 = 0) : rightB (decR l).1.c = true ∧ encR (decR l).1 = l ∧ (decR l).1.ok := by
  have h1 : ¬ ((d3 l).2.fe = 0 ∧ (nmd (d3 l).1).ok = false) := fun a => by
    unfold decR at h
    rw [if_pos a] at h
    cases h
  unfold decR at h ⊢
  rw [if_neg h1] at h ⊢
  have h2 : (EndR l (decS l (d3 l).1 (d3 l).2).2).fe = 0 := Classical.byContradiction fun a => by
    rw [decE_bad a] at h
    exact a h
  rw [decE_ok h2]
  have h3 : (decS l (d3 l).1 (d3 l).2).2.fe = 0 ∧ ¬ (decS l (d3 l).1 (d3 l).2).2.pos < l.length := by
    unfold EndR at h2
    split at h2
    · simp at h2
    · rename_i hn
      exact ⟨h2, fun a => hn ⟨h2, a⟩⟩
  obtain ⟨a, b⟩ := decS_rd l (d3 l).1 (d3 l).2
  have hv := b h3.1
  have hf3 : (d3 l).2.fe = 0 := fe_back (l := l) (f := fm (nmd (d3 l).1)) (by rw [← a]; exact h3.1)
  have hok : (nmd (d3 l).1).ok = true := by
    cases hx : (nmd (d3 l).1).ok with
    | true => rfl
    | false => exact absurd ⟨hf3, hx⟩ h1
  have hr := right_dec l (d3 l).1 (d3 l).2 hok
  have hall : rdF l ([.n, .n, .n] ++ fm (nmd (d3 l).1)) ⟨0, 0, 0⟩ = ([(d1 l).1, (d2 l).1, (d3 l).1] ++ vl (nmd (d3 l).1) (decS l (d3 l).1 (d3 l).2).1, (decS l (d3 l).1 (d3 l).2).2) := by
    rw [rdF_app, hd_rd]
    simp only
    rw [hv, ← a]
  obtain ⟨_, s1, s2, s3, s4⟩ := rdF_sound hb (fm := [.n, .n, .n] ++ fm (nmd (d3 l).1)) (s := ⟨0, 0, 0⟩) (Nat.zero_le _) (by rw [hall]; exact h3.1)
  rw [hall] at s1 s2 s3 s4
  simp only at s1 s2 s3 s4
  refine ⟨hr, ?_, ?_⟩
  · rw [encR_eq (q := ⟨(d1 l).1, (d2 l).1, (decS l (d3 l).1 (d3 l).2).1⟩) hr]
    show encF ([.n, .n, .n] ++ fm (nmd (d3 l).1)) ([(d1 l).1, (d2 l).1, (d3 l).1] ++ vl (nmd (d3 l).1) (decS l (d3 l).1 (d3 l).2).1) = l
    rw [← s1]
    have : (decS l (d3 l).1 (d3 l).2).2.pos = l.length := by omega
    rw [this]
    simp
  · rw [okF_app _ _ _ _ rfl] at s4
    obtain ⟨⟨k1, k2, k3, _⟩, s5⟩ := s4
    unfold fm vl at s5
    rw [okF_app _ _ _ _ (lO _ _), okF_app _ _ _ _ (lD _ _), okF_app _ _ _ _ (lI _ _)] at s5
    obtain ⟨t1, t2, t3, t4⟩ := s5
    have hr' := hr
    unfold rightB at hr'
    simp only [Bool.and_eq_true, Bool.or_eq_true] at hr'
    obtain ⟨_, o1, d1', i1, n1⟩ := hr'
    have z0 : Ord.ok ord0 := by unfold Ord.ok Site.ok I64 ord0 site0; simp
    have z1 : Drv.ok drv0 := by unfold Drv.ok I64 drv0; simp
    have ek : (decS l (d3 l).1 (d3 l).2).1.kind = (d3 l).1 := rfl
    rw [ek] at o1 d1' i1 n1
    refine ⟨k1, k2, k3, ?_, ?_, ?_, ?_⟩
    · unfold gO hO at t1
      by_cases c : (nmd (d3 l).1).o = true
      · rw [if_pos c, if_pos c] at t1; exact (okF_ord _).1 t1
      · rw [Ord.z_eq (o1.resolve_left c)]; exact z0
    · unfold gD hD at t2
      by_cases c : (nmd (d3 l).1).d = true
      · rw [if_pos c, if_pos c] at t2; exact (okF_drv _).1 t2
      · rw [Drv.z_eq (d1'.resolve_left c)]; exact z1
    · unfold gI hI at t3
      by_cases c : (nmd (d3 l).1).i = true
      · rw [if_pos c, if_pos c] at t3; exact t3.1
      · have x1 := i1.resolve_left c
        simp only [beq_iff_eq] at x1
        rw [x1]; unfold I64; omega
    · unfold gC hC at t4
      by_cases c : (nmd (d3 l).1).c = true
      · rw [if_pos c, if_pos c] at t4; exact t4.1
      · have x1 := n1.resolve_left c
        simp only [beq_iff_eq] at x1
        rw [x1]; unfold I64; omega
theorem apart15 {a b : Rq} (ha : rightB a.c = true) (hb : rightB b.c = true) (ka : a.ok) (kb : b.ok) : encR a = encR b ↔ a = b := by
  constructor
  · intro h
    have h1 := back15 ha ka
    rw [h, back15 hb kb] at h1
    simp only [Prod.mk.injEq, and_true] at h1
    exact h1.symm
  · rintro rfl; rfl
end Go.Proofs.Ytmobdofkiddfhaa
