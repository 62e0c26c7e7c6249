/- Package net, walked: Clear. -/
import Derived.Test.YthjabbheobpoeaaRj
set_option linter.unusedVariables false
set_option linter.unusedSimpArgs false
namespace Go.Proofs.Ythjabbheobpoeaa
open Go.RowKit B
theorem wpList_delete {P : Program} {ops : Array Oper} {rest : List Oper} {o : Oper} {a : Act} {w w' : World} {Q : Exit → Act → World → Prop} (hgd : o.guard = none) (x y : Operand) (t kt : TypeId) (ho : o.op = .call { callee := .builtin .delete, args := #[x, y], argTypes := #[t, kt] }) (vm vk : Value) (hx : a.eval x = vm) (hy : a.eval y = vk)
    (hr : (Builtin.delete_ #[t, kt] o.type #[vm, vk]).run P w = .ok (.tuple #[]) w') (h : wpList P ops Q rest (a.put o.dst (.tuple #[])) w') : wpList P ops Q (o :: rest) a w :=
  wpList_plain hgd fun K hK => by
    unfold Oper.wp execOp
    simp only [ho, resolve, invoke, builtin, Sem.run_bind, Sem.run_pure, Result.andThen_ok, List.map_toArray, List.map_cons, List.map_nil, hx, hy, hr]
    exact hK _ _ h
set_option maxRecDepth 100000 in
set_option maxHeartbeats 8000000 in
theorem Clear_any (g : Nat) (N : NS) (M C : Nat → Prop) (m : Nat) (b : Int) (hb : I64 b) (w : World) (h : NetAt w M C g N m) : Calls Try.prog 33 #[.pointer (some ⟨g, 0, none⟩), .int .i64 b] w fun e w' => e = .returned (.tuple #[]) ∧ Left w w' M C g (clearN N b) m := by
  have hnn := h.nn
  obtain ⟨n, hn⟩ : ∃ n : Nat, N.n = n := ⟨N.n.toNat, by omega⟩
  have HE : Hid (clearN N b = clearK N b n) := Lib.hid (by unfold clearN; rw [hn]; rfl)
  have hn7 : n ≤ 7 := by omega
  have HH : Hid (Left w w M C g (clearK N b 0) m) := Lib.hid (by rw [clearK_zero]; exact Left.refl h)
  have HN := Lib.hid hn
  have c0 : w.cell? ⟨g, 0, none⟩ = some (.int .i64 n) := by
    obtain ⟨bw, bc, V, k1, _⟩ := h.lay
    rw [k1.cell, ← hn]
    rfl
  clear h hn hnn
  go_enter Try.func33, Try.ntmps33
  go_wp2_with fail
  go_loopw [4, 9] (fun v4 v9 wr => ∃ k : Nat, v9 = .int .i64 k ∧ k ≤ n ∧ Hid (Left w wr M C g (clearK N b k) m)) (fun _ v9 _ => n - (intOf v9).toNat)
  case atStart => exact ⟨0, rfl, by omega, HH⟩
  case round =>
    clear HH c0
    obtain ⟨k, rfl, hk, hl⟩ := hrel
    by_cases hlt : k < n
    · obtain ⟨M1, C1, a1, a2, a3, a4⟩ := id hl.out
      obtain ⟨bw, bc, V, k1, k2, k3, k4, k5, k6, k7⟩ := a1.lay
      have hik : I64 (k : Int) := by unfold I64; omega
      have d1 := Blk.cell k1 1
      obtain ⟨wS, hr, hmap, hxS⟩ := k2.drop uW hik hb 0
      have hput := a1.put k1 k3 k4 k5 k6 k7 hik hb (v' := wz) (l' := []) (Nat.le_refl _) hmap (hxS.mono (fun _ _ e => .inl e)) (by simp) (fun k e => by simp [Value.ownBlock] at e) (QAt.nil _ C1 _) (fun _ h => h) (fun _ h => .inl h)
      have HS : Hid (Left w wS M C g (clearK N b (k + 1)) m) := Lib.hid (by rw [clearK_succ]; exact left_join a2 a3 a4 (Ext.refl None_ _) hput)
      have HR := Lib.hid hr
      clear a1 a2 a3 a4 k1 k2 k3 k4 k5 k6 k7 hmap hxS hput hr
      go_wp2_with (refine wpList_delete rfl (.tmp 15) (.tmp 18) _ _ rfl (.map (some bw)) (kv k b) rfl rfl HR.out ?_)
      go_roundw
      case rel => exact ⟨k + 1, by go_num, by omega, HS⟩
      case measure => simp [intOf]; omega
    · obtain rfl : k = n := by omega
      go_wp2_with fail
      go_end0
      rw [HE.out]
      exact ⟨rfl, hl.out⟩
end Go.Proofs.Ythjabbheobpoeaa
