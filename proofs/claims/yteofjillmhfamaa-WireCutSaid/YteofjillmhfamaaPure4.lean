/- Chapter 3's laws in plain Lean, of any item: what is written is read back; what is cut off ends too early. -/
import Derived.Test.YteofjillmhfamaaPure3
import Derived.Test.YteofjillmhfamaaWPut
import Derived.Test.YteofjillmhfamaaWBack
set_option linter.unusedVariables false
set_option linter.unusedSimpArgs false
namespace Go.Proofs.Yteofjillmhfamaa
open Go Go.RowKit B
def backS (l : List Int) (x : Item) (s : RS) : RS := if x.kind = 1 then (NumR l s).2 else if x.kind = 2 then (NumsR l x.l.length s).2 else if x.kind = 3 then (TextR l x.s.size s).2 else if x.kind = 4 then (FlagR l s).2 else s
def backB (l : List Int) (x : Item) (s : RS) : Bool := if x.kind = 1 then (NumR l s).1 == x.n else if x.kind = 2 then decide ((NumsR l x.l.length s).1 = x.l) else if x.kind = 3 then (strOfNums (TextR l x.s.size s).1).toList == x.s.toList else if x.kind = 4 then (FlagR l s).1 == x.f else true
theorem str_bytes (s : ByteArray) : strOfNums (bytesOf s) = s := by
  have h : (strOfNums (bytesOf s)).data.toList = s.data.toList := by
    rw [strOfNums_data]
    unfold bytesOf
    rw [List.map_map]
    have : ((fun n : Int => UInt8.ofNat n.toNat) ∘ fun b : UInt8 => (b.toNat : Int)) = id := by funext b; simp
    rw [this, List.map_id]
  cases s with
  | mk d => exact congrArg ByteArray.mk (Array.ext' h)
theorem byt_bytesOf (s : ByteArray) : Byt (bytesOf s) := fun n hn => by
  obtain ⟨b, _, rfl⟩ := List.mem_map.1 hn
  have := b.toNat_lt
  omega
theorem nums_back (l : List Int) (ns : List Int) (s : RS) (rest : List Int) (hf : s.fe = 0) (hI : ∀ n ∈ ns, I64 n) (hn : I64 (ns.length : Int)) (h : l.drop s.pos = (enc ns.length ++ encs ns) ++ rest) :
    NumsR l ns.length s = (ns, ⟨s.pos + (enc ns.length ++ encs ns).length, s.fa, s.fe⟩) := by
  have h2 : l.drop s.pos = enc ns.length ++ (encs ns ++ rest) := by rw [h, List.append_assoc]
  have h1 := numR_enc l s.pos s ns.length _ hn h2
  have hc : countR l s.pos ns.length s = ((ns.length : Int), ⟨s.pos + (enc (ns.length : Int)).length, s.fa, s.fe⟩) := by
    unfold countR
    rw [h1]
    rw [if_neg (by simp only; omega)]
  unfold NumsR
  rw [if_pos hf, hc]
  simp only [Int.toNat_natCast]
  rw [numsF_enc ns l s.pos ⟨s.pos + (enc (ns.length : Int)).length, s.fa, s.fe⟩ rest hf hI (drop_next h2 rfl)]
  simp only [fin, hf, if_true, List.length_append, Nat.add_assoc]
  rfl
theorem text_back (l : List Int) (t : ByteArray) (s : RS) (rest : List Int) (hf : s.fe = 0) (hn : I64 (t.size : Int)) (h : l.drop s.pos = (enc t.size ++ bytesOf t) ++ rest) :
    TextR l t.size s = (bytesOf t, ⟨s.pos + (enc t.size ++ bytesOf t).length, s.fa, s.fe⟩) := by
  have h2 : l.drop s.pos = enc t.size ++ (bytesOf t ++ rest) := by rw [h, List.append_assoc]
  have h1 := numR_enc l s.pos s t.size _ hn h2
  have hc : countR l s.pos t.size s = ((t.size : Int), ⟨s.pos + (enc (t.size : Int)).length, s.fa, s.fe⟩) := by
    unfold countR
    rw [h1]
    rw [if_neg (by simp only; omega)]
  have h3 := drop_next h2 rfl
  have hl3 := congrArg List.length h3
  rw [List.length_drop, List.length_append, bytesOf_length] at hl3
  have hl2 := congrArg List.length h2
  rw [List.length_drop, List.length_append, List.length_append, bytesOf_length] at hl2
  have hl1 := (enc_length (t.size : Int)).1
  unfold TextR
  rw [if_pos hf, hc]
  simp only
  rw [if_pos hf, if_neg (by omega), h3, Int.toNat_natCast]
  rw [List.take_append_of_le_length (by rw [bytesOf_length]; omega), List.take_of_length_le (by rw [bytesOf_length]; omega)]
  simp only [List.length_append, bytesOf_length, Nat.add_assoc]
theorem flag_back (l : List Int) (f : Bool) (s : RS) (rest : List Int) (hf : s.fe = 0) (h : l.drop s.pos = [if f = true then 1 else 0] ++ rest) : FlagR l s = (f, ⟨s.pos + 1, s.fa, s.fe⟩) := by
  rw [FlagR_at hf h]
  cases f <;> simp
theorem num_back (l : List Int) (n : Int) (s : RS) (rest : List Int) (hf : s.fe = 0) (hn : I64 n) (h : l.drop s.pos = enc n ++ rest) : NumR l s = (n, ⟨s.pos + (enc n).length, s.fa, s.fe⟩) := by
  unfold NumR
  rw [if_pos hf, numR_enc l s.pos s n rest hn h]
theorem i64_len {n : Nat} (h : n ≤ 140737488351232) : I64 (n : Int) := by unfold I64; omega
theorem back_law (l : List Int) (x : Item) (s : RS) (rest : List Int) (hf : s.fe = 0) (hn : I64 x.n) (hI : ∀ n ∈ x.l, I64 n) (hl : x.l.length ≤ 17592186043904) (hs : x.s.size ≤ 140737488351232) (h : l.drop s.pos = encI x ++ rest) :
    backB l x s = true ∧ backS l x s = ⟨s.pos + (encI x).length, s.fa, s.fe⟩ := by
  unfold backB backS encI at *
  by_cases k1 : x.kind = 1
  · simp only [k1, if_true] at h ⊢
    rw [num_back l x.n s rest hf hn h]
    simp
  simp only [k1, if_false] at h ⊢
  by_cases k2 : x.kind = 2
  · simp only [k2, if_true] at h ⊢
    rw [nums_back l x.l s rest hf hI (i64_len (by omega)) h]
    simp
  simp only [k2, if_false] at h ⊢
  by_cases k3 : x.kind = 3
  · simp only [k3, if_true] at h ⊢
    rw [text_back l x.s s rest hf (i64_len hs) h, str_bytes]
    simp
  simp only [k3, if_false] at h ⊢
  by_cases k4 : x.kind = 4
  · simp only [k4, if_true] at h ⊢
    rw [flag_back l x.f s rest hf h]
    simp
  simp only [k4, if_false] at h ⊢
  simp
theorem numR_cut (n : Int) (l : List Int) (f : Nat) (s : RS) (j : Nat) (hj : j < (enc n).length) (h : l.drop s.pos = (enc n).take j) : numR l f s = (0, ⟨f, f, 3⟩) := numR_bad (by rw [h]; exact enc_cut n j hj)
theorem numsF_cut (ns : List Int) : ∀ (l : List Int) (f : Nat) (s : RS) (j : Nat), s.fe = 0 → (∀ n ∈ ns, I64 n) → j < (encs ns).length → l.drop s.pos = (encs ns).take j → (numsF l f ns.length s).2 = ⟨f, f, 3⟩ := by
  induction ns with
  | nil => intro l f s j _ _ hj _; simp [encs] at hj
  | cons n ns ih =>
    intro l f s j hf hI hj h
    have e : encs (n :: ns) = enc n ++ encs ns := by simp [encs]
    rw [List.length_cons, numsF_ok l f _ s hf]
    by_cases hc : j < (enc n).length
    · rw [e, List.take_append_of_le_length (by omega)] at h
      rw [numR_cut n l f s j hc h, numsF_bad _ _ _ _ (by simp)]
    · rw [e, List.take_append, List.take_of_length_le (by omega)] at h
      rw [numR_enc l f s n _ (hI n (by simp)) h]
      exact ih l f ⟨s.pos + (enc n).length, s.fa, s.fe⟩ (j - (enc n).length) hf (fun m hm => hI m (by simp [hm])) (by rw [e, List.length_append] at hj; omega) (drop_next h rfl)
theorem count_cut (n : Nat) (l : List Int) (most : Int) (j : Nat) (hj : j < (enc (n : Int)).length) (h : l = (enc (n : Int)).take j) : countR l 0 most ⟨0, 0, 0⟩ = (0, ⟨0, 0, 3⟩) := by
  have h1 := numR_cut n l 0 ⟨0, 0, 0⟩ j hj (by simpa using h)
  unfold countR
  rw [h1, if_neg (by simp)]
theorem count_back (n : Nat) (l : List Int) (rest : List Int) (hn : I64 (n : Int)) (h : l = enc (n : Int) ++ rest) : countR l 0 n ⟨0, 0, 0⟩ = ((n : Int), ⟨(enc (n : Int)).length, 0, 0⟩) := by
  have h1 := numR_enc l 0 ⟨0, 0, 0⟩ n rest hn (by simpa using h)
  unfold countR
  rw [h1, if_neg (by simp only; omega)]
  simp
theorem back_cut (x : Item) (j : Nat) (hn : I64 x.n) (hI : ∀ n ∈ x.l, I64 n) (hl : x.l.length ≤ 17592186043904) (hs : x.s.size ≤ 140737488351232) (hj : j < (encI x).length) : backS ((encI x).take j) x ⟨0, 0, 0⟩ = ⟨0, 0, 3⟩ := by
  unfold backS encI at *
  by_cases k1 : x.kind = 1
  · simp only [k1, if_true] at hj ⊢
    unfold NumR
    rw [if_pos rfl, numR_cut x.n _ 0 ⟨0, 0, 0⟩ j hj (by simp)]
  simp only [k1, if_false] at hj ⊢
  by_cases k2 : x.kind = 2
  · simp only [k2, if_true] at hj ⊢
    unfold NumsR
    rw [if_pos rfl]
    by_cases hc : j < (enc (x.l.length : Int)).length
    · rw [List.take_append_of_le_length (by omega), count_cut x.l.length _ _ j hc rfl]
      simp [numsF, fin]
    · rw [List.take_append, List.take_of_length_le (by omega)]
      rw [count_back x.l.length _ _ (i64_len (by omega)) rfl]
      simp only [Int.toNat_natCast]
      have := numsF_cut x.l (enc (x.l.length : Int) ++ (encs x.l).take (j - (enc (x.l.length : Int)).length)) 0 ⟨(enc (x.l.length : Int)).length, 0, 0⟩ (j - (enc (x.l.length : Int)).length) rfl hI (by rw [List.length_append] at hj; omega) (by simp)
      unfold fin
      rw [this, if_neg (by simp)]
  simp only [k2, if_false] at hj ⊢
  by_cases k3 : x.kind = 3
  · simp only [k3, if_true] at hj ⊢
    unfold TextR
    rw [if_pos rfl]
    by_cases hc : j < (enc (x.s.size : Int)).length
    · rw [List.take_append_of_le_length (by omega), count_cut x.s.size _ _ j hc rfl]
      simp
    · rw [List.take_append, List.take_of_length_le (by omega)]
      rw [count_back x.s.size _ _ (i64_len hs) rfl]
      rw [List.length_append, bytesOf_length] at hj
      simp only
      rw [if_pos trivial, if_pos (by simp only [List.length_append, List.length_take, bytesOf_length]; omega)]
  simp only [k3, if_false] at hj ⊢
  by_cases k4 : x.kind = 4
  · simp only [k4, if_true, List.length_singleton] at hj ⊢
    obtain rfl : j = 0 := by omega
    rw [FlagR_end rfl (by simp)]
  simp only [k4, if_false, List.length_nil] at hj
  omega
theorem byt_encI (x : Item) (hn : I64 x.n) (hI : ∀ n ∈ x.l, I64 n) (hl : x.l.length ≤ 17592186043904) (hs : x.s.size ≤ 140737488351232) : Byt (encI x) := by
  unfold encI
  split
  · exact byt_enc _ hn
  split
  · exact byt_append (byt_enc _ (i64_len (by omega))) (byt_encs _ hI)
  split
  · exact byt_append (byt_enc _ (i64_len hs)) (byt_bytesOf _)
  split
  · intro n hn
    simp only [List.mem_singleton] at hn
    subst hn
    split <;> omega
  · intro n hn; simp at hn
theorem back_any (g b : Nat) (l : List Int) (s : RS) (x : Item) (A2 : Option Addr) (c2 : Nat) (w : World) (h : Rd w g b l s) (hx : ItOk w x A2 c2) (hl8 : l.length ≤ 225000000000000) (hA : ∀ ad, A2 = some ad → 0 < x.l.length → ad.block ≠ g) :
    Calls Try.prog 27 #[.pointer (some ⟨g, 0, none⟩), x.val A2 c2] w fun e w' => e = .returned (.bool (backB l x s)) ∧ Rd w' g b l (backS l x s) ∧ Ext (OnlyG g) w w' := by
  unfold backB backS
  by_cases k1 : x.kind = 1
  · have := back1_any g b l s x A2 c2 w h hx hl8 (by simp [k1])
    rw [if_pos k1, if_pos k1]; exact this
  by_cases k2 : x.kind = 2
  · have := back2_any g b l s x A2 c2 w h hx hl8 hA (by simp [k2])
    rw [if_neg k1, if_neg k1, if_pos k2, if_pos k2]; exact this
  by_cases k3 : x.kind = 3
  · have := back3_any g b l s x A2 c2 w h hx hl8 (by simp [k3])
    rw [if_neg k1, if_neg k1, if_neg k2, if_neg k2, if_pos k3, if_pos k3]; exact this
  by_cases k4 : x.kind = 4
  · have := back4_any g b l s x A2 c2 w h hx hl8 (by simp [k4])
    rw [if_neg k1, if_neg k1, if_neg k2, if_neg k2, if_neg k3, if_neg k3, if_pos k4, if_pos k4]; exact this
  have := back5_any g b l s x A2 c2 w h hx hl8 (by simp [k1, k2, k3, k4])
  rw [if_neg k1, if_neg k1, if_neg k2, if_neg k2, if_neg k3, if_neg k3, if_neg k4, if_neg k4]; exact this
end Go.Proofs.Yteofjillmhfamaa
