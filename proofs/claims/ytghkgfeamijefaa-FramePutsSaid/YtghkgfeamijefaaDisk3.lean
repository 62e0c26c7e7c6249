/- Package disk, walked: written. -/
import Derived.Test.YtghkgfeamijefaaDisk2
import Derived.Laws.CopyOwn
set_option linter.unusedVariables false
set_option linter.unusedSimpArgs false
namespace Go.Proofs.Ytghkgfeamijefaa
open Go.RowKit B
def zeros (n : Nat) : List Int := List.replicate n 0
/-- A file's bytes with p from a place on. -/
def wrF (old : List Int) (n : Nat) (p : List Int) : List Int := splice (splice (zeros (max old.length (n + p.length))) 0 old) n p
theorem B8_splice (l : List Int) (n : Nat) (c : List Int) : B8 (splice l n c) = splice (B8 l) n (B8 c) := by simp [splice, B8, List.map_take, List.map_drop]
theorem byt_splice {l c : List Int} {n : Nat} (hl : Byt l) (hc : Byt c) : Byt (splice l n c) := fun x hx => by
  simp only [splice, List.mem_append] at hx
  rcases hx with h | h | h
  · exact hl x (List.mem_of_mem_take h)
  · exact hc x h
  · exact hl x (List.mem_of_mem_drop h)
theorem byt_zeros (n : Nat) : Byt (zeros n) := fun x hx => by
  obtain rfl := (List.mem_replicate.1 hx).2
  omega
theorem wrF_byt {l p : List Int} {n : Nat} (hl : Byt l) (hp : Byt p) : Byt (wrF l n p) := byt_splice (byt_splice (byt_zeros _) hl) hp
theorem wrF_length (l : List Int) (n : Nat) (p : List Int) : (wrF l n p).length = max l.length (n + p.length) := by
  have h1 : (splice (zeros (max l.length (n + p.length))) 0 l).length = max l.length (n + p.length) := by rw [length_splice _ _ _ (by simp [zeros]; omega)]; simp [zeros]
  unfold wrF
  rw [length_splice _ _ _ (by rw [h1]; omega), h1]
theorem wpList_mk8 {w : World} {ops : Array Oper} {rest : List Oper} {o : Oper} {a : Act} {Q : Exit → Act → World → Prop} (hgd : o.guard = none) (x : Operand) (ho : o.op = .makeSlice 22 x x) (I : Int) (N : Nat) (hx : a.eval x = .int .i64 I) (hI : I = N) (hN : N ≤ 140737488355328)
    (h : wpList Try.prog ops Q rest (a.put o.dst (.slice (some ⟨w.heap.size, 0, none⟩) N N)) (w.alloc (.cells (List.replicate N (.int .u8 0)).toArray 5))) : wpList Try.prog ops Q (o :: rest) a w := by
  refine wpList_plain hgd fun K hK => ?_
  obtain ⟨i0, hi, hz0, hz1, hz2⟩ := info_parts infoU8
  have hr := run_make (P := Try.prog) w 22 5 i0 (.int .u8 0) Try.underlying22 hi hz0 .i64 .i64 (N : Int) (N : Int) (by omega) (Int.le_refl _) (by rw [hz2]; omega) (by omega)
  rw [hz1, show (N : Int).toNat = N by omega] at hr
  have hm : madeCells (Value.int .u8 0).cells (N * 1) = (List.replicate N (.int .u8 0)).toArray := by
    rw [Nat.mul_one]
    exact Array.toList_inj.1 (by rw [show (Value.int .u8 0).cells = #[.int .u8 0] from rfl, toList_madeCells_one])
  rw [hm] at hr
  subst hI
  unfold Oper.wp
  simp [execOp, ho, hx, hr, Result.andThen]
  exact hK _ _ h
theorem B8_zeros (n : Nat) : B8 (zeros n) = List.replicate n (.int .u8 0) := by simp [B8, zeros]
theorem Own.whole {w : World} {e size n g : Nat} {cs : List Value} (hm : n ≤ maxLen) (hs : cs.length = n * size) (hg : w.heap[g]? = some (.cells cs.toArray e (0, 0))) : Own w e size (fun k => k = g) (.slice (some ⟨g, 0, none⟩) n n) n cs :=
  ⟨⟨hs, .inr ⟨g, n, cs.toArray, rfl, Nat.zero_le _, hg, Nat.le_refl _, hm, by simpa using hs, by rw [← hs]; simp⟩⟩, fun k hk => by simpa [Value.ownBlock] using hk.symm⟩
set_option maxRecDepth 100000 in
set_option maxHeartbeats 4000000 in
theorem written_any (A : Option Addr) (c : Nat) (old : List Int) (n : Nat) (A2 : Option Addr) (c2 : Nat) (p : List Int) (w : World) (hr1 : Row w A (B8 old)) (hr2 : Row w A2 (B8 p)) (h1 : old.length ≤ 1048576) (h2 : n ≤ 1048576) (h3 : p.length ≤ 1048576) :
    Calls Try.prog 53 #[.slice A old.length c, .int .i64 n, .slice A2 p.length c2] w fun e w' => ∃ v', e = .returned v' ∧ OwnB w' (fun k => w.heap.size ≤ k) v' (wrF old n p) ∧ Ext None_ w w' := by
  obtain ⟨N, hN⟩ : ∃ N, N = max old.length (n + p.length) := ⟨_, rfl⟩
  have hN1 : old.length ≤ N := by omega
  have hN2 : n + p.length ≤ N := by omega
  have hN3 : N ≤ 3145728 := by omega
  obtain ⟨Z, hZ⟩ : ∃ Z, Z = List.replicate N (Value.int .u8 0) := ⟨_, rfl⟩
  have hMK : ∀ (W : World) {ops : Array Oper} {rest : List Oper} {o : Oper} {a : Act} {Q : Exit → Act → World → Prop} (hgd : o.guard = none) (x : Operand) (ho : o.op = .makeSlice 22 x x) (I : Int) (hx : a.eval x = .int .i64 I) (hI : I = N), wpList Try.prog ops Q rest (a.put o.dst (.slice (some ⟨W.heap.size, 0, none⟩) N N)) (W.alloc (.cells Z.toArray 5)) → wpList Try.prog ops Q (o :: rest) a W := by
    intro W ops rest o a Q hgd x ho I hx hI h
    exact wpList_mk8 hgd x ho I N hx hI (by omega) (hZ ▸ h)
  have hZl : Z.length = N := by rw [hZ]; simp
  obtain ⟨X1, hX1⟩ : ∃ X1, X1 = B8 old := ⟨_, rfl⟩
  obtain ⟨X2, hX2⟩ : ∃ X2, X2 = B8 p := ⟨_, rfl⟩
  have hX1l : X1.length = old.length := by rw [hX1, B8_length]
  have hX2l : X2.length = p.length := by rw [hX2, B8_length]
  have hl1 : (splice Z 0 X1).length = N := by rw [length_splice _ _ _ (by omega), hZl]
  have hl2 : (splice (splice Z 0 X1) n X2).length = N := by rw [length_splice _ _ _ (by omega), hl1]
  have HE : Hid (B8 (wrF old n p) = splice (splice Z 0 X1) n X2 ∧ (wrF old n p).length = N) := Lib.hid (by
    refine ⟨?_, by rw [wrF_length, hN]⟩
    rw [wrF, B8_splice, B8_splice, B8_zeros, ← hN, ← hZ, ← hX1, ← hX2])
  have HP1 : Hid (0 < X1.length → ∃ ad, A = some ad ∧ ∀ W, Ext None_ w W → ∀ (j : Nat) v, X1[j]? = some v → W.cell? (ad.add j) = some v) := Lib.hid (fun h => by
    rw [hX1] at h
    obtain ⟨ad, rfl⟩ := hr1.some h
    refine ⟨ad, rfl, fun W hx j v hv => ?_⟩
    rw [hX1] at hv
    obtain ⟨ad', e, hc⟩ := (hr1.ext0 hx) j v hv
    cases e
    exact hc)
  have HP2 : Hid (0 < X2.length → ∃ ad, A2 = some ad ∧ ∀ W, Ext None_ w W → ∀ (j : Nat) v, X2[j]? = some v → W.cell? (ad.add j) = some v) := Lib.hid (fun h => by
    rw [hX2] at h
    obtain ⟨ad, rfl⟩ := hr2.some h
    refine ⟨ad, rfl, fun W hx j v hv => ?_⟩
    rw [hX2] at hv
    obtain ⟨ad', e, hc⟩ := (hr2.ext0 hx) j v hv
    cases e
    exact hc)
  have HO1 : Hid (∀ v ∈ X1, v.oneCell' = true) := Lib.hid (hX1 ▸ B8_one old)
  have HO2 : Hid (∀ v ∈ X2, v.oneCell' = true) := Lib.hid (hX2 ▸ B8_one p)
  have HL := Lib.hid (And.intro hZl (And.intro hX1l (And.intro hX2l (And.intro hl1 hl2))))
  have HBLK : Hid ((w.alloc (.cells Z.toArray 5)).heap[w.heap.size]? = some (.cells Z.toArray 5 (0, 0))) := Lib.hid (heap_alloc_new w _)
  have HPOS : Hid (0 < X1.length → some (⟨w.heap.size, 0, none⟩ : Addr) = some ⟨w.heap.size, 0, none⟩ ∧ ∃ ad, A = some ad ∧ ∀ (j : Nat) v, X1[j]? = some v → (w.alloc (.cells Z.toArray 5)).cell? (ad.add j) = some v) := Lib.hid (fun h => ⟨rfl, by obtain ⟨ad, e, hc⟩ := HP1.out h; exact ⟨ad, e, hc _ (x0 _ _)⟩⟩)
  have HMIN : Hid (X1.length = Nat.min old.length N) := Lib.hid (by rw [hX1l]; exact (Nat.min_eq_left hN1).symm)
  have HFIT : Hid (0 + X1.length ≤ Z.length) := Lib.hid (by omega)
  have HBEL : Hid (Below w.heap.size w (w.alloc (.cells Z.toArray 5))) := Lib.hid (Ext.below ((Ext.refl None_ w).alloc _))
  obtain ⟨AN, hAN, hcut⟩ := cut_l (P := Try.prog) 22 5 1 Try.underlying22 infoU8 (some ⟨w.heap.size, 0, none⟩) N N (n : Int) (by omega) (by omega) (Nat.le_refl _)
  rw [show (n : Int).toNat = n by omega] at hcut hAN
  have HAN : Hid (0 < X2.length → AN = some ⟨w.heap.size, n, none⟩) := Lib.hid (fun h => by
    rw [hAN, if_neg (by omega)]
    exact congrArg some ((add_plain _ _).trans (by rw [Nat.mul_one])))
  have HMIN2 : Hid (X2.length = Nat.min p.length (N - n)) := Lib.hid (by rw [hX2l]; exact (Nat.min_eq_left (by omega)).symm)
  have HFIT2 : Hid (n + X2.length ≤ (splice Z 0 X1).length) := Lib.hid (by omega)
  have HMK := Lib.hid @hMK
  have HN := Lib.hid hN
  clear hN hMK hAN hZ hZl hX1 hX2 hX1l hX2l hl1 hl2 hr1 hr2
  go_enter Try.func53, Try.ntmps53
  go_wp2_with (first
    | (refine HMK.out _ rfl (.tmp 14) rfl _ rfl (by have := HN.out; omega) ?_)
    | (refine wpList_copy_splice rfl (.tmp 16) (.tmp 17) 22 22 rfl 5 Try.underlying22 (by kernel_rfl) (some ⟨w.heap.size, 0, none⟩) A N N old.length c rfl rfl w.heap.size 0 Z 5 HBLK.out X1 HMIN.out HPOS.out HFIT.out HO1.out w.heap.size w HBEL.out (Nat.le_refl _) ?_; intro w1 hw1 hb1; have HB1 := Lib.hid hb1; clear hb1)
    | (refine wpList_copy_splice rfl (.tmp 21) (.tmp 22) 22 22 rfl 5 Try.underlying22 (by kernel_rfl) AN A2 (N - n) (N - n) p.length c2 rfl rfl w.heap.size n (splice Z 0 X1) 5 hw1.out X2 HMIN2.out (fun h => ⟨HAN.out h, by obtain ⟨ad, e, hc⟩ := HP2.out h; exact ⟨ad, e, hc _ (Ext.ofBelow HB1.out)⟩⟩) HFIT2.out HO2.out w.heap.size w HB1.out (Nat.le_refl _) ?_; intro w2 hw2 hb2; have HB2 := Lib.hid hb2; clear hb2))
  all_goals
    go_ret
    refine ⟨_, rfl, ?_, Ext.ofBelow HB2.out⟩
    have he := HE.out
    unfold OwnB
    rw [he.1, he.2]
    exact (Own.whole (by simp only [maxLen]; omega) (by rw [HL.out.2.2.2.2, Nat.mul_one]) hw2.out).mono (fun k _ e => by omega)
end Go.Proofs.Ytghkgfeamijefaa
