/- Package wire, walked: what is written. -/
import Derived.Test.YteofjillmhfamaaWire5
import Derived.Lib.AppendStr
import Derived.Deep.RegionWith
import Derived.Laws.BytesArg
set_option linter.unusedVariables false
set_option linter.unusedSimpArgs false
namespace Go.Proofs.Yteofjillmhfamaa
open Go.RowKit B





theorem OwnB.late {w1 w2 : World} {m : Nat} {v1 v2 : Value} {l l2 : List Int} (h1 : OwnB w1 (fun k => m ≤ k) v1 l) (hm : m ≤ w1.heap.size) (h2 : OwnB w2 (From v1 w1.heap.size) v2 l2) : OwnB w2 (fun k => m ≤ k) v2 l2 :=
  OwnB.mono h2 (fun k _ hk => by
    rcases hk with hk | hk
    · exact h1.blk k hk
    · omega)
theorem ext_late {S : Nat → Prop} {w w1 w2 : World} {ok : Nat → Prop} {v1 : Value} {l : List Int} (h1 : OwnB w1 ok v1 l) (hok : ∀ k, ok k → w.heap.size ≤ k) (hx : Ext S w w1) (h2 : Ext (Of v1) w1 w2) : Ext S w w2 :=
  hx.trans h2 (fun k hk hq => by have := hok k (h1.blk k hq); omega)
def bytesOf (s : ByteArray) : List Int := s.data.toList.map fun b => (b.toNat : Int)
theorem bytesOf_length (s : ByteArray) : (bytesOf s).length = s.size := by rw [bytesOf, List.length_map, Array.length_toList]; rfl
theorem strCells_eq (s : ByteArray) : Lib.strCells s = B8 (bytesOf s) := by simp [Lib.strCells, B8, bytesOf]
theorem owns_from {w : World} {e size n m : Nat} {v : Value} {xs : List Value} (h : w.ownsRow 0 e size v n xs) (hm : ∀ k, v.ownBlock = some k → m ≤ k) : w.ownsRow m e size v n xs := by
  refine ⟨h.1, ?_⟩
  rcases h.2 with a | ⟨g, cap, cur, rfl, hb, r⟩
  · exact .inl a
  · exact .inr ⟨g, cap, cur, rfl, hm g rfl, r⟩
theorem owns_zero {w : World} {e size n m : Nat} {v : Value} {xs : List Value} (h : w.ownsRow m e size v n xs) : w.ownsRow 0 e size v n xs := by
  refine ⟨h.1, ?_⟩
  rcases h.2 with a | ⟨g, cap, cur, rfl, hb, r⟩
  · exact .inl a
  · exact .inr ⟨g, cap, cur, rfl, Nat.zero_le _, r⟩
theorem appS {w : World} {ops : Array Oper} {rest : List Oper} {o : Oper} {a : Act} {Q : Exit → Act → World → Prop} (hgd : o.guard = none) (s x : Operand)
    (ho : o.op = .call { callee := .builtin .append, args := #[s, x], argTypes := #[23, 9] })
    (v : Value) (l : List Int) (st : ByteArray) (hs : a.eval s = v) (hx : a.eval x = .string st) {m : Nat} (hown : OwnB w (fun k => m ≤ k) v l) (hm : m ≤ w.heap.size)
    (hlen : l.length + st.size ≤ 140737488355328)
    (h : ∀ v' w', OwnB w' (fun k => m ≤ k) v' (l ++ bytesOf st) → Ext (Of v) w w' → wpList Try.prog ops Q rest (a.put o.dst v') w') : wpList Try.prog ops Q (o :: rest) a w := by
  obtain ⟨i0, hi, hz0, hz1, hz2⟩ := info_parts infoU8
  refine Lib.wpList_append_own_string (w := w) hgd s x 23 9 ho m 5 i0 Try.underlying23 Try.underlying9 hi hz0 hz1 hz2 v l.length (B8 l) hs (owns_from hown.own hown.blk) st hx (by simp only [maxLen]; omega) hlen hm ?_
  intro v' w' h1 h2 _
  refine h v' w' ⟨?_, fun k hk => (h1.lt k hk).1⟩ ((Ext.refl _ _).grown h2 (fun k hk => .inl hk))
  have := owns_zero h1
  rw [strCells_eq, ← B8_append] at this
  rw [List.length_append, bytesOf_length]
  exact this
def encs (l : List Int) : List Int := l.flatMap enc
theorem wNum_any (A : Option Addr) (c : Nat) (l : List Int) (n : Int) (w : World) (hn : I64 n) (hrow : Row w A (B8 l)) (hlen : l.length + 10 ≤ 225000000000000) :
    Calls Try.prog 10 #[.slice A l.length c, .int .i64 n] w fun e w' => ∃ v', e = .returned v' ∧ OwnB w' (fun k => w.heap.size ≤ k) v' (l ++ enc n) ∧ Ext None_ w w' := by
  have HR := Lib.hid hrow
  clear hrow
  go_enter Try.func10, Try.ntmps10
  go_wp2_with (first
    | (go_at_call 34; refine (again_any A c l 10 _ HR.out hlen).mono ?_; rintro e w1 ⟨v1, rfl, ho1, hx1, _⟩; have HO1 := Lib.hid ho1; have HX1 := Lib.hid hx1; clear ho1 hx1)
    | (go_at_call 33; refine (put_any _ n l _ _ hn HO1.out hlen).mono ?_; rintro e w2 ⟨v2, rfl, ho2, hx2⟩; have HO2 := Lib.hid ho2; have HX2 := Lib.hid hx2; clear ho2 hx2))
  go_ret
  exact ⟨_, rfl, OwnB.late HO1.out HX1.out.size HO2.out, ext_late HO1.out (fun k h => h) HX1.out HX2.out⟩
theorem wFlag_any (A : Option Addr) (c : Nat) (l : List Int) (f : Bool) (w : World) (hrow : Row w A (B8 l)) (hlen : l.length + 10 ≤ 225000000000000) :
    Calls Try.prog 13 #[.slice A l.length c, .bool f] w fun e w' => ∃ v', e = .returned v' ∧ OwnB w' (fun k => w.heap.size ≤ k) v' (l ++ [if f = true then 1 else 0]) ∧ Ext None_ w w' := by
  have HR := Lib.hid hrow
  clear hrow
  cases f
  all_goals
    go_enter Try.func13, Try.ntmps13
    go_wp2_with (first
      | (go_at_call 34; refine (again_any A c l 1 _ HR.out (by omega)).mono ?_; rintro e w1 ⟨v1, rfl, ho1, hx1, _⟩; have HO1 := Lib.hid ho1; have HX1 := Lib.hid hx1; clear ho1 hx1)
      | (at_builtin; refine app8 rfl (.tmp 8) (.tmp 10) rfl v1 l [_] _ _ rfl rfl (HO1.out.alloc _) (Blk.new _ _ _).row (by simp only [List.length_singleton]; omega) ?_; intro v2 w2 ho2 hx2; have HO2 := Lib.hid ho2; have HX2 := Lib.hid hx2; clear ho2 hx2))
    go_ret
    exact ⟨_, rfl, OwnB.late (HO1.out.alloc _) (by have := HX1.out.size; simp; omega) HO2.out, ext_late (HO1.out.alloc _) (fun k h => h) (HX1.out.alloc _) HX2.out⟩
theorem wText_any (A : Option Addr) (c : Nat) (l : List Int) (s : ByteArray) (w : World) (hrow : Row w A (B8 l)) (hs : s.size ≤ 9223372036854775807) (hlen : l.length + 10 + s.size ≤ 140737488355328) :
    Calls Try.prog 12 #[.slice A l.length c, .string s] w fun e w' => ∃ v', e = .returned v' ∧ OwnB w' (fun k => w.heap.size ≤ k) v' (l ++ enc s.size ++ bytesOf s) ∧ Ext None_ w w' := by
  have HR := Lib.hid hrow
  clear hrow
  have hel := (enc_length (s.size : Int)).2
  have HI : Hid (I64 (s.size : Int)) := Lib.hid ⟨by omega, by omega⟩
  go_enter Try.func12, Try.ntmps12
  go_wp2_with (first
    | (go_at_call 34; refine (again_any A c l (10 + s.size) _ HR.out (by omega)).mono ?_; rintro e w1 ⟨v1, rfl, ho1, hx1, _⟩; have HO1 := Lib.hid ho1; have HX1 := Lib.hid hx1; clear ho1 hx1)
    | (go_at_call 33; refine (put_any _ (s.size : Int) l _ _ HI.out HO1.out (by omega)).mono ?_; rintro e w2 ⟨v2, rfl, ho2, hx2⟩; have HO2 := Lib.hid (OwnB.late HO1.out HX1.out.size ho2); have HX2 := Lib.hid (ext_late HO1.out (fun k h => h) HX1.out hx2); clear ho2 hx2)
    | (at_builtin; refine appS rfl (.tmp 12) (.tmp 13) rfl v2 _ s rfl rfl HO2.out HX2.out.size (by rw [List.length_append]; omega) ?_; intro v3 w3 ho3 hx3; have HO3 := Lib.hid ho3; have HX3 := Lib.hid hx3; clear ho3 hx3))
  go_ret
  exact ⟨_, rfl, HO3.out, ext_late HO2.out (fun k h => h) HX2.out HX3.out⟩
theorem encs_length (l : List Int) : (encs l).length ≤ 10 * l.length := by
  induction l with
  | nil => simp [encs]
  | cons x l ih =>
    have := (enc_length x).2
    simp only [encs, List.flatMap_cons, List.length_append, List.length_cons] at *
    omega
set_option maxRecDepth 100000 in
theorem wNums_any (A : Option Addr) (c : Nat) (l : List Int) (A2 : Option Addr) (c2 : Nat) (ns : List Int) (w : World) (hrow : Row w A (B8 l)) (hrow2 : Row w A2 (I8 ns)) (hns : ∀ n ∈ ns, I64 n) (hlen : l.length + 10 + 10 * ns.length ≤ 225000000000000) :
    Calls Try.prog 11 #[.slice A l.length c, .slice A2 ns.length c2] w fun e w' => ∃ v', e = .returned v' ∧ OwnB w' (fun k => w.heap.size ≤ k) v' (l ++ enc ns.length ++ encs ns) ∧ Ext None_ w w' := by
  have HR := Lib.hid hrow
  have HR2 := Lib.hid hrow2
  have HNS := Lib.hid hns
  clear hrow hrow2 hns
  have hel := (enc_length (ns.length : Int)).2
  have HI : Hid (I64 (ns.length : Int)) := Lib.hid ⟨by omega, by omega⟩
  go_enter Try.func11, Try.ntmps11
  go_wp2_with (first
    | (go_at_call 34; refine (again_any A c l (10 + 2 * ns.length) _ HR.out (by omega)).mono ?_; rintro e w1 ⟨v1, rfl, ho1, hx1, _⟩; have HO1 := Lib.hid ho1; have HX1 := Lib.hid hx1; clear ho1 hx1)
    | (go_at_call 33; refine (put_any _ (ns.length : Int) l _ _ HI.out HO1.out (by omega)).mono ?_; rintro e w2 ⟨v2, rfl, ho2, hx2⟩; have HO2 := Lib.hid (OwnB.late HO1.out HX1.out.size ho2); have HX2 := Lib.hid (ext_late HO1.out (fun k h => h) HX1.out hx2); clear ho2 hx2))
  go_loopw [5, 7, 19] (fun v5 _ v19 wr => ∃ (i : Nat), v19 = .int .i64 i ∧ i ≤ ns.length ∧ Hid (OwnB wr (fun k => w.heap.size ≤ k) v5 (l ++ enc ns.length ++ encs (ns.take i))) ∧ Hid (Ext None_ w wr)) (fun _ _ v19 _ => ns.length - (intOf v19).toNat)
  case atStart => exact ⟨0, rfl, by omega, Lib.hid (by simpa [encs] using HO2.out), HX2⟩
  case round =>
    obtain ⟨i, rfl, hi, ho, hx⟩ := hrel
    by_cases hlt : i < ns.length
    · obtain ⟨x, hxe⟩ : ∃ x, x = ns[i] := ⟨_, rfl⟩
      have hxI := HNS.out x (by rw [hxe]; exact List.getElem_mem _)
      have HT : Hid (ns.take (i + 1) = ns.take i ++ [x]) := Lib.hid (by rw [hxe]; exact List.take_succ_eq_append_getElem hlt)
      obtain ⟨ad, rfl, hc0⟩ := HR2.out i (.int .i64 x) (by simp [I8, hxe])
      have hc : wr.cell? (ad.add i) = some (.int .i64 x) := hx.out.cell hc0 (fun a => a)
      have HXI := Lib.hid hxI
      have hle := encs_length (ns.take i)
      rw [List.length_take] at hle
      have hfit : (l ++ enc ns.length ++ encs (ns.take i)).length + 10 ≤ 225000000000000 := by
        rw [List.length_append, List.length_append]
        have : min i ns.length = i := by omega
        omega
      clear hxe hc0 hxI hle
      go_wp2_with (go_at_call 33; refine (put_any _ x _ _ _ HXI.out ho.out hfit).mono ?_; rintro e w3 ⟨v3, rfl, ho3, hx3⟩; have HO3 := Lib.hid (OwnB.late ho.out hx.out.size ho3); have HX3 := Lib.hid (ext_late ho.out (fun k h => h) hx.out hx3); clear ho3 hx3)
      go_roundw
      case rel => exact ⟨i + 1, by go_num, by omega, Lib.hid (by rw [HT.out]; simpa [encs] using HO3.out), HX3⟩
      case measure => simp [intOf]; omega
    · have he : i = ns.length := by omega
      subst he
      go_wp2
      go_ret
      exact ⟨_, rfl, by simpa using ho.out, hx.out⟩
theorem Read_any (A : Option Addr) (c : Nat) (l : List Int) (w : World) (hrow : Row w A (B8 l)) (hb : Byt l) (hlen : l.length ≤ 225000000000000) :
    Calls Try.prog 19 #[.slice A l.length c] w fun e w' => ∃ g b, e = .returned (.pointer (some ⟨g, 0, none⟩)) ∧ Rd w' g b l ⟨0, 0, 0⟩ ∧ w.heap.size ≤ g ∧ w.heap.size ≤ b ∧ Ext None_ w w' := by
  have HR := Lib.hid hrow
  clear hrow
  go_enter Try.func19, Try.ntmps19
  go_wp2_with (go_at_call 34; refine (again_any A c l 0 _ HR.out hlen).mono ?_; rintro e w1 ⟨v1, rfl, ho1, hx1, hs1⟩; have HO1 := Lib.hid ho1; have HX1 := Lib.hid hx1; obtain ⟨A1, c1, rfl, hl1, hm1, hrow1⟩ := Own.slice ho1; have HROW := Lib.hid hrow1; clear ho1 hx1 hrow1)
  go_ret
  have hx := HX1.out.alloc (.cells #[.int .i64 0, .int .i64 0, .slice A1 l.length c1, .int .i64 0] 55)
  have hrow := HROW.out.ext0 ((Ext.refl None_ w1).alloc (.cells #[.int .i64 0, .int .i64 0, .slice A1 l.length c1, .int .i64 0] 55))
  have hn := Blk.new w1 #[.int .i64 0, .int .i64 0, .slice A1 l.length c1, .int .i64 0] 55
  cases A1 with
  | none =>
    exact ⟨w1.heap.size, w.heap.size, rfl, ⟨none, c1, hn, hl1, hrow, (fun ad e => by cases e), ⟨by omega, by simp; omega⟩, hb, Nat.zero_le _, hlen⟩, by omega, Nat.le_refl _, hx⟩
  | some ad =>
    have h1 := HO1.out.blk ad.block rfl
    have h2 := Own.lt HO1.out ad.block rfl
    exact ⟨w1.heap.size, ad.block, rfl, ⟨some ad, c1, hn, hl1, hrow, (fun ad' e => by cases e; rfl), ⟨by omega, by simp; omega⟩, hb, Nat.zero_le _, hlen⟩, by omega, h1, hx⟩
end Go.Proofs.Yteofjillmhfamaa
