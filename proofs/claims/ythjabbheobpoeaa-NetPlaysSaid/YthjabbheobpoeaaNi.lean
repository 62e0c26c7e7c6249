/- Package net, walked: Links. -/
import Derived.Test.YthjabbheobpoeaaNh
set_option linter.unusedVariables false
set_option linter.unusedSimpArgs false
namespace Go.Proofs.Ythjabbheobpoeaa
open Go.RowKit B
theorem infoLink : (Try.prog.info? 38).map (fun i => (i.zero, i.size, i.bytes)) = some (some (.agg #[.int .i64 0, .int .i64 0]), 2, 16) := by kernel_rfl
theorem wpList_appL {w : World} {ops : Array Oper} {rest : List Oper} {o : Oper} {a : Act} {Q : Exit → Act → World → Prop} (hgd : o.guard = none) (s x : Operand) (ho : o.op = .call { callee := .builtin .append, args := #[s, x], argTypes := #[35, 35] })
    (ok : Nat → Prop) (v : Value) (n : Nat) (xs : List Value) (hs : a.eval s = v) (hown : Own w 38 2 ok v n xs)
    (b : Nat) (y z : Int) (hx : a.eval x = .slice (some ⟨b, 0, none⟩) 1 1) (hb : Blk w b #[.int .i64 y, .int .i64 z] 38) (hn : n + 1 ≤ 1000000)
    (h : ∀ v' w', Own w' 38 2 (fun k => v.ownBlock = some k ∨ w.heap.size ≤ k) v' (n + 1) (xs ++ [.int .i64 y, .int .i64 z]) → Ext (fun k => v.ownBlock = some k) w w' → wpList Try.prog ops Q rest (a.put o.dst v') w') : wpList Try.prog ops Q (o :: rest) a w :=
  wpList_plain hgd fun K' hK' => wpApp s x 35 ho 38 _ 2 16 Try.underlying35 infoLink rfl (by decide) (by decide) ok v n xs hs hown _ 1 1 [.int .i64 y, .int .i64 z] hx rfl hb.row (by simp [Value.oneCell']) (by omega) (fun v' w' h1 h2 => hK' _ _ (h v' w' h1 h2))
def okL (N : NS) (a b : Int) : Bool := decide (0 < (N.wait a b).length ∧ N.cut a b = 0)
def rowL (N : NS) (a j : Nat) : List (Int × Int) := ((List.range j).filter (fun b : Nat => okL N a b)).map (fun b : Nat => ((a : Int), (b : Int)))
def tabL (N : NS) (n i : Nat) : List (Int × Int) := (List.range i).flatMap (fun a : Nat => rowL N a n)
def cellsL (l : List (Int × Int)) : List Value := l.flatMap (fun p => [.int .i64 p.1, .int .i64 p.2])
def linksN (N : NS) : List (Int × Int) := tabL N N.n.toNat N.n.toNat
theorem rowL_yes (N : NS) (a j : Nat) (h : okL N a j = true) : rowL N a (j + 1) = rowL N a j ++ [((a : Int), (j : Int))] := by
  unfold rowL
  rw [List.range_succ, List.filter_append, List.map_append]
  simp [h]
theorem rowL_no (N : NS) (a j : Nat) (h : okL N a j = false) : rowL N a (j + 1) = rowL N a j := by
  unfold rowL
  rw [List.range_succ, List.filter_append, List.map_append]
  simp [h]
theorem tabL_succ (N : NS) (n i : Nat) : tabL N n (i + 1) = tabL N n i ++ rowL N i n := by
  unfold tabL
  rw [List.range_succ, List.flatMap_append]
  simp
theorem rowL_len (N : NS) (a j : Nat) : (rowL N a j).length ≤ j := by
  unfold rowL
  rw [List.length_map]
  exact Nat.le_trans (List.length_filter_le _ _) (by simp)
theorem tabL_len (N : NS) (n : Nat) : ∀ i, (tabL N n i).length ≤ i * n
  | 0 => by simp [tabL]
  | i + 1 => by
    rw [tabL_succ, List.length_append, Nat.succ_mul]
    have := tabL_len N n i
    have := rowL_len N i n
    omega
theorem cellsL_append (l m : List (Int × Int)) : cellsL (l ++ m) = cellsL l ++ cellsL m := by unfold cellsL; rw [List.flatMap_append]
def LinkO (w wr : World) (v : Value) (l : List (Int × Int)) : Prop := Own wr 38 2 (fun k => w.heap.size ≤ k) v l.length (cellsL l)
theorem link_add {w wr w' : World} {N : NS} {n i j : Nat} {v v' : Value} {cs : Array Value} {t : TypeId} (ho : LinkO w wr v (tabL N n i ++ rowL N i j)) (hx : Ext None_ w wr)
    (h1 : Own w' 38 2 (fun k => v.ownBlock = some k ∨ (wr.alloc (.cells cs t)).heap.size ≤ k) v' ((tabL N n i ++ rowL N i j).length + 1) (cellsL (tabL N n i ++ rowL N i j) ++ [.int .i64 i, .int .i64 j])) (h2 : Ext (fun k => v.ownBlock = some k) (wr.alloc (.cells cs t)) w') (hok : okL N i j = true) :
    LinkO w w' v' (tabL N n i ++ rowL N i (j + 1)) ∧ Ext None_ w w' := by
  have hs := hx.size
  have hs2 : (wr.alloc (.cells cs t)).heap.size = wr.heap.size + 1 := size_alloc _ _
  constructor
  · rw [rowL_yes N i j hok, ← List.append_assoc]
    unfold LinkO
    rw [cellsL_append _ [_], List.length_append]
    refine Own.mono h1 (fun k _ e => ?_)
    rcases e with e | e
    · exact ho.blk k e
    · show w.heap.size ≤ k
      omega
  · refine (hx.trans0 (x0 wr _)).trans h2 (fun k hk e => ?_)
    have := ho.blk k e
    omega
set_option maxRecDepth 100000 in
set_option maxHeartbeats 16000000 in
theorem Links_any (g : Nat) (N : NS) (M C : Nat → Prop) (m : Nat) (w : World) (h : NetAt w M C g N m) : Calls Try.prog 14 #[.pointer (some ⟨g, 0, none⟩)] w fun e w' => ∃ A c, e = .returned (.slice A (linksN N).length c) ∧ LinkO w w' (.slice A (linksN N).length c) (linksN N) ∧ Ext None_ w w' := by
  have hnn := h.nn
  obtain ⟨n, hn⟩ : ∃ n : Nat, N.n = n := ⟨N.n.toNat, by omega⟩
  have HL : Hid (linksN N = tabL N n n) := Lib.hid (by unfold linksN; rw [hn]; rfl)
  have HC0 : Hid (∀ W, Ext None_ w W → W.cell? ⟨g, 0, none⟩ = some (.int .i64 n)) := Lib.hid (fun W hx => by
    obtain ⟨bw, bc, A, c, c0, _⟩ := (h.ext0 hx).asks 0 0 (by unfold I64; omega) (by unfold I64; omega)
    rw [c0, hn])
  have HH := Lib.hid h
  have hn7 : n ≤ 7 := by omega
  clear h hn hnn
  have c0 := HC0.out w (Ext.refl _ _)
  go_enter Try.func14, Try.ntmps14
  go_wp2_with fail
  clear c0
  go_loopw [3, 10] (fun v3 v10 wr => ∃ i : Nat, v10 = .int .i64 i ∧ i ≤ n ∧ Hid (LinkO w wr v3 (tabL N n i)) ∧ Hid (Ext None_ w wr)) (fun _ v10 _ => n - (intOf v10).toNat)
  case atStart => exact ⟨0, rfl, by omega, Lib.hid (Own.nil _ _ _ _), Lib.hid (Ext.refl _ _)⟩
  case round =>
    obtain ⟨i, rfl, hi, ho, hx⟩ := hrel
    have c0 := HC0.out _ hx.out
    by_cases hlt : i < n
    · go_wp2_with fail
      clear c0
      go_loopw [3, 17] (fun v3 v17 wr => ∃ j : Nat, v17 = .int .i64 j ∧ j ≤ n ∧ Hid (LinkO w wr v3 (tabL N n i ++ rowL N i j)) ∧ Hid (Ext None_ w wr)) (fun _ v17 _ => n - (intOf v17).toNat)
      case atStart => exact ⟨0, rfl, by omega, Lib.hid (by simpa [rowL] using ho.out), hx⟩
      case round =>
        clear ho hx
        obtain ⟨j, rfl, hj, ho, hx⟩ := hrel
        by_cases hlj : j < n
        · obtain ⟨bw, bc, A, c, c0, c1, c2, l1, l2, _⟩ := (HH.out.ext0 hx.out).asks (i : Int) (j : Int) (by unfold I64; omega) (by unfold I64; omega)
          clear c0
          obtain ⟨q, hq⟩ : ∃ q, q = (N.wait i j).length := ⟨_, rfl⟩
          obtain ⟨ct, hct⟩ : ∃ q, q = N.cut i j := ⟨_, rfl⟩
          rw [← hq] at l1
          rw [← hct] at l2
          by_cases h0 : 0 < q
          · by_cases hc0 : ct = 0
            · subst hc0
              have HOK : Hid (okL N i j = true) := Lib.hid (by unfold okL; rw [← hq, ← hct]; simpa using h0)
              clear hq hct
              have HB : (tabL N n i ++ rowL N i j).length + 1 ≤ 1000000 := by
                have h1 := tabL_len N n i
                have h2 := rowL_len N i j
                have h3 := Nat.mul_le_mul hi hn7
                rw [List.length_append]
                omega
              go_wp2_with (refine wpList_appL rfl (.tmp 41) (.tmp 45) rfl (fun k => w.heap.size ≤ k) u3 _ _ rfl (Own.ext0 ho.out (x0 wr _)) wr.heap.size i j rfl (Blk.new wr _ _) HB ?_; intro v' w' h1 h2; have HO9 := Lib.hid (link_add ho.out hx.out h1 h2 HOK.out); clear h1 h2)
              exact ⟨⟨j + 1, by go_num, by omega, Lib.hid HO9.out.1, Lib.hid HO9.out.2⟩, by simp [intOf]; omega⟩
            · have HOK : Hid (okL N i j = false) := Lib.hid (by unfold okL; rw [← hq, ← hct]; simpa using fun _ => hc0)
              clear hq hct
              go_wp2_with fail
              exact ⟨⟨j + 1, by go_num, by omega, Lib.hid (by rw [rowL_no _ _ _ HOK.out]; exact ho.out), hx⟩, by simp [intOf]; omega⟩
          · have HOK : Hid (okL N i j = false) := Lib.hid (by unfold okL; rw [← hq, ← hct]; simp [h0])
            obtain rfl : q = 0 := by omega
            clear hq hct
            go_wp2_with fail
            exact ⟨⟨j + 1, by go_num, by omega, Lib.hid (by rw [rowL_no _ _ _ HOK.out]; exact ho.out), hx⟩, by simp [intOf]; omega⟩
        · obtain rfl : j = n := by omega
          go_wp2_with fail
          exact ⟨⟨i + 1, by go_num, by omega, Lib.hid (by rw [tabL_succ]; exact ho.out), hx⟩, by simp [intOf]; omega⟩
    · obtain rfl : i = n := by omega
      obtain ⟨A, c, rfl, _⟩ := Own.slice ho.out
      go_wp2_with fail
      go_ret
      exact ⟨A, c, by rw [HL.out]; rfl, by rw [HL.out]; exact ho.out, hx.out⟩
end Go.Proofs.Ythjabbheobpoeaa
