/- Package wire, walked: what is written. -/
import Derived.Test.YtghkgfeamijefaaWire3
import Derived.Lib.AppendStr
import Derived.Deep.RegionWith
import Derived.Laws.BytesArg
set_option linter.unusedVariables false
set_option linter.unusedSimpArgs false
namespace Go.Proofs.Ytghkgfeamijefaa
open Go.RowKit B





theorem OwnB.late {w1 w2 : World} {m : Nat} {v1 v2 : Value} {l l2 : List Int} (h1 : OwnB w1 (fun k => m ≤ k) v1 l) (hm : m ≤ w1.heap.size) (h2 : OwnB w2 (From v1 w1.heap.size) v2 l2) : OwnB w2 (fun k => m ≤ k) v2 l2 :=
  OwnB.mono h2 (fun k _ hk => by
    rcases hk with hk | hk
    · exact h1.blk k hk
    · omega)
theorem ext_late {S : Nat → Prop} {w w1 w2 : World} {ok : Nat → Prop} {v1 : Value} {l : List Int} (h1 : OwnB w1 ok v1 l) (hok : ∀ k, ok k → w.heap.size ≤ k) (hx : Ext S w w1) (h2 : Ext (Of v1) w1 w2) : Ext S w w2 :=
  hx.trans h2 (fun k hk hq => by have := hok k (h1.blk k hq); omega)
def bytesOf (s : ByteArray) : List Int := s.data.toList.map fun b => (b.toNat : Int)
theorem bytesOf_length (s : ByteArray) : (bytesOf s).length = s.size := by rw [bytesOf, List.length_map, Array.length_toList]; rfl
theorem strCells_eq (s : ByteArray) : Lib.strCells s = B8 (bytesOf s) := by simp [Lib.strCells, B8, bytesOf]
theorem owns_from {w : World} {e size n m : Nat} {v : Value} {xs : List Value} (h : w.ownsRow 0 e size v n xs) (hm : ∀ k, v.ownBlock = some k → m ≤ k) : w.ownsRow m e size v n xs := by
  refine ⟨h.1, ?_⟩
  rcases h.2 with a | ⟨g, cap, cur, rfl, hb, r⟩
  · exact .inl a
  · exact .inr ⟨g, cap, cur, rfl, hm g rfl, r⟩
theorem owns_zero {w : World} {e size n m : Nat} {v : Value} {xs : List Value} (h : w.ownsRow m e size v n xs) : w.ownsRow 0 e size v n xs := by
  refine ⟨h.1, ?_⟩
  rcases h.2 with a | ⟨g, cap, cur, rfl, hb, r⟩
  · exact .inl a
  · exact .inr ⟨g, cap, cur, rfl, Nat.zero_le _, r⟩
theorem appS {w : World} {ops : Array Oper} {rest : List Oper} {o : Oper} {a : Act} {Q : Exit → Act → World → Prop} (hgd : o.guard = none) (s x : Operand)
    (ho : o.op = .call { callee := .builtin .append, args := #[s, x], argTypes := #[22, 9] })
    (v : Value) (l : List Int) (st : ByteArray) (hs : a.eval s = v) (hx : a.eval x = .string st) {m : Nat} (hown : OwnB w (fun k => m ≤ k) v l) (hm : m ≤ w.heap.size)
    (hlen : l.length + st.size ≤ 140737488355328)
    (h : ∀ v' w', OwnB w' (fun k => m ≤ k) v' (l ++ bytesOf st) → Ext (Of v) w w' → wpList Try.prog ops Q rest (a.put o.dst v') w') : wpList Try.prog ops Q (o :: rest) a w := by
  obtain ⟨i0, hi, hz0, hz1, hz2⟩ := info_parts infoU8
  refine Lib.wpList_append_own_string (w := w) hgd s x 22 9 ho m 5 i0 Try.underlying22 Try.underlying9 hi hz0 hz1 hz2 v l.length (B8 l) hs (owns_from hown.own hown.blk) st hx (by simp only [maxLen]; omega) hlen hm ?_
  intro v' w' h1 h2 _
  refine h v' w' ⟨?_, fun k hk => (h1.lt k hk).1⟩ ((Ext.refl _ _).grown h2 (fun k hk => .inl hk))
  have := owns_zero h1
  rw [strCells_eq, ← B8_append] at this
  rw [List.length_append, bytesOf_length]
  exact this
def encs (l : List Int) : List Int := l.flatMap enc
theorem wNum_any (A : Option Addr) (c : Nat) (l : List Int) (n : Int) (w : World) (hn : I64 n) (hrow : Row w A (B8 l)) (hlen : l.length + 10 ≤ 140737488355328) :
    Calls Try.prog 57 #[.slice A l.length c, .int .i64 n] w fun e w' => ∃ v', e = .returned v' ∧ OwnB w' (fun k => w.heap.size ≤ k) v' (l ++ enc n) ∧ Ext None_ w w' := by
  have HR := Lib.hid hrow
  clear hrow
  go_enter Try.func57, Try.ntmps57
  go_wp2_with (first
    | (go_at_call 81; refine (again_any A c l 10 _ HR.out hlen).mono ?_; rintro e w1 ⟨v1, rfl, ho1, hx1, _⟩; have HO1 := Lib.hid ho1; have HX1 := Lib.hid hx1; clear ho1 hx1)
    | (go_at_call 80; refine (put_any _ n l _ _ hn HO1.out hlen).mono ?_; rintro e w2 ⟨v2, rfl, ho2, hx2⟩; have HO2 := Lib.hid ho2; have HX2 := Lib.hid hx2; clear ho2 hx2))
  go_ret
  exact ⟨_, rfl, OwnB.late HO1.out HX1.out.size HO2.out, ext_late HO1.out (fun k h => h) HX1.out HX2.out⟩
theorem encs_length (l : List Int) : (encs l).length ≤ 10 * l.length := by
  induction l with
  | nil => simp [encs]
  | cons x l ih =>
    have := (enc_length x).2
    simp only [encs, List.flatMap_cons, List.length_append, List.length_cons] at *
    omega
theorem Read_any (A : Option Addr) (c : Nat) (l : List Int) (w : World) (hrow : Row w A (B8 l)) (hb : Byt l) (hlen : l.length ≤ 140737488355328) :
    Calls Try.prog 77 #[.slice A l.length c] w fun e w' => ∃ g b, e = .returned (.pointer (some ⟨g, 0, none⟩)) ∧ Rd w' g b l ⟨0, 0, 0⟩ ∧ w.heap.size ≤ g ∧ w.heap.size ≤ b ∧ Ext None_ w w' := by
  have HR := Lib.hid hrow
  clear hrow
  go_enter Try.func77, Try.ntmps77
  go_wp2_with (go_at_call 81; refine (again_any A c l 0 _ HR.out hlen).mono ?_; rintro e w1 ⟨v1, rfl, ho1, hx1, hs1⟩; have HO1 := Lib.hid ho1; have HX1 := Lib.hid hx1; obtain ⟨A1, c1, rfl, hl1, hm1, hrow1⟩ := Own.slice ho1; have HROW := Lib.hid hrow1; clear ho1 hx1 hrow1)
  go_ret
  have hx := HX1.out.alloc (.cells #[.int .i64 0, .int .i64 0, .slice A1 l.length c1, .int .i64 0] 117)
  have hrow := HROW.out.ext0 ((Ext.refl None_ w1).alloc (.cells #[.int .i64 0, .int .i64 0, .slice A1 l.length c1, .int .i64 0] 117))
  have hn := Blk.new w1 #[.int .i64 0, .int .i64 0, .slice A1 l.length c1, .int .i64 0] 117
  cases A1 with
  | none =>
    exact ⟨w1.heap.size, w.heap.size, rfl, ⟨none, c1, hn, hl1, hrow, (fun ad e => by cases e), ⟨by omega, by simp; omega⟩, hb, Nat.zero_le _, hlen⟩, by omega, Nat.le_refl _, hx⟩
  | some ad =>
    have h1 := HO1.out.blk ad.block rfl
    have h2 := Own.lt HO1.out ad.block rfl
    exact ⟨w1.heap.size, ad.block, rfl, ⟨some ad, c1, hn, hl1, hrow, (fun ad' e => by cases e; rfl), ⟨by omega, by simp; omega⟩, hb, Nat.zero_le _, hlen⟩, by omega, h1, hx⟩
end Go.Proofs.Ytghkgfeamijefaa
