/- append as one operation of a drawn region. -/
import Derived.Test.YtghkgfeamijefaaReg4
import Derived.Test.YtghkgfeamijefaaWire
set_option linter.unusedVariables false
set_option linter.unusedSimpArgs false
namespace Go.Proofs.Ytghkgfeamijefaa
open Go.RowKit B
theorem wpApp {P : Program} {w : World} {o : Oper} {a : Act} {K : Act → World → Prop} {Q : Exit → Act → World → Prop} (s x : Operand) (t : TypeId)
    (ho : o.op = .call { callee := .builtin .append, args := #[s, x], argTypes := #[t, t] })
    (e : TypeId) (z : Value) (size bytes : Nat) (ht : P.underlying t = some (.slice e)) (hinfo : (P.info? e).map (fun i => (i.zero, i.size, i.bytes)) = some (some z, size, bytes)) (hzs : z.cells.size = size) (hsz : 0 < size) (hb0 : 0 < bytes)
    (ok : Nat → Prop) (v : Value) (n : Nat) (xs : List Value) (hs : a.eval s = v) (hown : Own w e size ok v n xs)
    (A : Option Addr) (m c : Nat) (news : List Value) (hx : a.eval x = .slice A m c) (hl : news.length = m * size) (hnews : Row w A news) (h1 : ∀ u ∈ news, u.oneCell' = true)
    (hbytes : (n + m) * bytes ≤ 140737488355328)
    (h : ∀ v' w', Own w' e size (fun k => v.ownBlock = some k ∨ w.heap.size ≤ k) v' (n + m) (xs ++ news) → Ext (fun k => v.ownBlock = some k) w w' → K (a.put o.dst v') w') : o.wp P a w K Q := by
  obtain ⟨i0, hi, hzz⟩ := Option.map_eq_some_iff.1 hinfo
  simp only [Prod.mk.injEq] at hzz
  obtain ⟨hz0, hz1, hz2⟩ := hzz
  have hlen : n + m ≤ 140737488355328 := Nat.le_trans (Nat.le_mul_of_pos_right _ hb0) hbytes
  cases A with
  | none =>
    have hn : news = [] := by
      cases news with
      | nil => rfl
      | cons u r =>
        obtain ⟨ad, e, _⟩ := hnews 0 u rfl
        cases e
    subst hn
    have hm : m = 0 := by
      rcases Nat.eq_zero_or_pos m with hm | hm
      · exact hm
      · have := Nat.mul_pos hm hsz
        simp at hl
        omega
    subst hm
    have hrun : (Builtin.append_ #[t, t] o.type #[v, .slice none 0 c]).run P w = .ok v w := by
      rcases hown.own.2 with ⟨rfl, rfl⟩ | ⟨g, cap, cur, rfl, _, _, hnc, _⟩
      · simp [Builtin.append_, run_underlying ht, sizeOf, typeInfo, hi, Builtin.lenOf, Builtin.firstCells]
      · simp [Builtin.append_, run_underlying ht, sizeOf, typeInfo, hi, Builtin.lenOf, Builtin.firstCells, hnc, storeCells]
    unfold Oper.wp
    simp [execOp, ho, resolve, invoke, builtin, hs, hx, hrun, Result.andThen]
    exact h v w (by simpa using hown.mono1) (Ext.refl _ _)
  | some ad =>
    obtain ⟨v', w', hr, h2, h3, h4, h5⟩ := run_append_own_at (P := P) w 0 t o.type e i0 z size bytes ht hi hz0 hz1 hz2 hzs hsz v n xs hown.own ad m c news hl (fun j u hj => by
      obtain ⟨ad', e, hc⟩ := hnews j u hj
      cases e
      exact hc) h1 (by simp only [maxLen]; omega) hbytes (Nat.zero_le _)
    unfold Oper.wp execOp
    simp only [ho, resolve, invoke, builtin, Sem.run_bind, Sem.run_pure, Result.andThen_ok, List.map_toArray, List.map_cons, List.map_nil, hs, hx, hr]
    refine h v' w' ⟨h2, fun k hk => ?_⟩ ((Ext.refl _ _).grown h3 (fun k hk => .inl hk))
    rcases h5 with hat | hat
    · exact .inl (hat ▸ hk)
    · rw [hat] at hk
      cases hk
      exact .inr (Nat.le_refl _)
/-- A row of bytes of the call's own. -/
def sB (ok : Nat → Prop) (l : List Int) : SG := ⟨fun u w => OwnB w ok u l, fun _ _ _ h hx => OwnB.ext0 h hx⟩
/-- append([]byte(nil), x...). -/
theorem opApp8 {w : World} {o : Oper} {a : Act} {K : Act → World → Prop} {Q : Exit → Act → World → Prop} {ok : Nat → Prop} {m : List Int} (hK : ∀ v w', (sB ok m).p v w' → Ext None_ w w' → K (a.put o.dst v) w') {s x : Operand}
    (ho : o.op = .call { callee := .builtin .append, args := #[s, x], argTypes := #[22, 22] }) (hs : a.eval s = .slice none 0 0) {A : Option Addr} {c : Nat} (hx : a.eval x = .slice A m.length c) (hr : Row w A (B8 m)) (hl : m.length ≤ 140737488355328) (hok : ∀ k, w.heap.size ≤ k → ok k) : o.wp Try.prog a w K Q :=
  wpApp s x 22 ho 5 (.int .u8 0) 1 1 Try.underlying22 infoU8 rfl (by decide) (by decide) (fun _ => False) (.slice none 0 0) 0 [] hs (Own.nil _ _ _ _) A m.length c (B8 m) hx (by rw [B8_length, Nat.mul_one]) hr (B8_one _) (by omega)
    fun v' w' h1 h2 => hK v' w' (by
      show Own w' _ _ _ _ _ _
      rw [List.nil_append, Nat.zero_add] at h1
      exact h1.mono (fun k _ e => by
        rcases e with e | e
        · simp [Value.ownBlock] at e
        · exact hok k e)) (h2.mono (fun k _ e => by simp [Value.ownBlock] at e))
end Go.Proofs.Ytghkgfeamijefaa
