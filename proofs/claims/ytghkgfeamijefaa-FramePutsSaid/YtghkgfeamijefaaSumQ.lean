/- SumRuns, walked: the closed sentence of chapter 2. Written by gen_sumq.py. -/
import Derived.Test.YtghkgfeamijefaaSumR
import Derived.Test.YtghkgfeamijefaaDisk11
import Derived.Great.BuildSlice
set_option linter.unusedVariables false
set_option linter.unusedSimpArgs false
namespace Go.Proofs.Ytghkgfeamijefaa
open Go.RowKit B
instance (l : List Int) : Decidable (Byt l) := inferInstanceAs (Decidable (∀ x ∈ l, 0 ≤ x ∧ x < 256))
/-- []byte of a constant, in a walk. -/
theorem wpList_mark {w : World} {ops : Array Oper} {rest : List Oper} {o : Oper} {a : Act} {Q : Exit → Act → World → Prop} (hgd : Region.wanted o (yielded ops a.tmps) = true) (x : Operand) (ho : o.op = .convert 22 22 x) (b : Nat) (l : List Int) (n : Nat) (hn : l.length = n) (hx : a.eval x = .slice (some ⟨b, 0, none⟩) n n) (hb : w.heap[b]? = some (.cells (B8 l).toArray 5 (0, 0)))
    (h : ∀ w', Ext (fun q => q = b) w w' → Row w' (some ⟨b, 0, none⟩) (B8 l) → wpList Try.prog ops Q rest (a.put o.dst (.slice (some ⟨b, 0, none⟩) n n)) w') : wpList Try.prog ops Q (o :: rest) a w := by
  subst hn
  refine wpList_step fun K hK => ?_
  rw [if_pos hgd]
  obtain ⟨w', hr, h6, h7⟩ := conv_mark (n := l.length) (c := l.length) hb
  unfold Oper.wp
  simp [execOp, ho, hx, hr, Result.andThen]
  exact hK _ _ (h w' h6 (by simpa using h7))
theorem ofK (PA : Option Addr) (cap : Nat) (ps : List (List Int)) (k : Nat) (hk : ps.length = k) (w : World) (n : Int) (hn : nt (sumOf 0#32 ps.flatten) = n) (hp : Parts w PA ps) (hlen : k ≤ 140737488355328) :
    Calls Try.prog 70 #[.slice PA k cap] w fun e w' => e = .returned (.int .u32 n) ∧ w = w' := by
  subst hk hn
  exact of_any PA cap ps w hp hlen
theorem openK (A : Option Addr) (c : Nat) (l : List Int) (k : Nat) (hk : l.length = k) (w : World) (r : List Int) (ok : Bool) (hf : openF l = (r, ok)) (hrow : Row w A (B8 l)) (hb : Byt l) (hc : k ≤ c) (hlen : k ≤ 140737488355328) :
    Calls Try.prog 37 #[.slice A k c] w fun e w' => ∃ A' c', e = .returned (.tuple #[.slice A' r.length c', .bool ok]) ∧ Row w' A' (B8 r) ∧ Ext None_ w w' := by
  subst hk
  have := open_any A c l w hrow hb hc hlen
  rw [hf] at this
  exact this.mono fun e w' ⟨v, h1, h2, h3⟩ => by
    obtain ⟨A', c', rfl, _, _, hr⟩ := Own.slice h2
    exact ⟨A', c', h1, hr, h3⟩
theorem sameK (A1 : Option Addr) (c1 : Nat) (l : List Int) (k : Nat) (hk : l.length = k) (A2 : Option Addr) (c2 : Nat) (w : World) (h1 : Row w A1 (B8 l)) (h2 : Row w A2 (B8 l)) (hl : k ≤ 140737488355328) :
    Calls Try.prog 25 #[.slice A1 k c1, .slice A2 k c2] w fun e w' => e = .returned (.bool true) ∧ Ext None_ w w' := by
  subst hk
  exact (same_any A1 c1 l A2 c2 l w h1 h2 hl hl).mono fun e w' ⟨h3, h4⟩ => ⟨h3.trans (by simp), h4⟩
set_option maxRecDepth 100000 in
set_option maxHeartbeats 16000000 in
theorem SumRuns_any (w : World) : Calls Try.prog 43 #[] w fun e w' => e = .returned (.bool true) ∧ Ext None_ w w' := by
  have HS1 := Lib.hid (show nt (sumOf 0#32 [[49, 50, 51, 52, 53, 54, 55, 56, 57]].flatten) = 3421780262 by decide +kernel)
  have HS2 := Lib.hid (show nt (sumOf 0#32 [[49, 50, 51, 52], [53, 54, 55, 56, 57]].flatten) = 3421780262 by decide +kernel)
  have HS3 := Lib.hid (show nt (sumOf 0#32 ([] : List (List Int)).flatten) = 0 by decide +kernel)
  have HS4 := Lib.hid (show [] ++ le4 (sumOf 0#32 []) = [0, 0, 0, 0] by decide +kernel)
  have HO1 := Lib.hid (show openF [0, 0, 0, 0] = ([], true) by decide +kernel)
  have HO2 := Lib.hid (show openF [1, 2, 3] = ([], false) by decide +kernel)
  have HO3 := Lib.hid (show openF [97, 67, 190, 183, 232] = ([97], true) by decide +kernel)
  have HO4 := Lib.hid (show openF [97, 67, 190, 183, 233] = ([], false) by decide +kernel)
  have X0 := Lib.hid (Ext.refl None_ w)
  go_enter Try.func43, Try.ntmps43
  go_wp2_with (first
    | (refine wpList_mark rfl (.tmp 12) rfl w.heap.size [49, 50, 51, 52, 53, 54, 55, 56, 57] 9 rfl rfl (heap_alloc_new w _) ?_; intro w1 hx hr; have X1 := Lib.hid (X0.out.trans0 (lit_ext (Nat.le_refl _) (x0 w _) hx)); have R1 := Lib.hid hr; clear X0; clear hx hr)
    | (go_at_call 70; refine (ofK (some ⟨w1.heap.size, 0, none⟩) 1 [[49, 50, 51, 52, 53, 54, 55, 56, 57]] 1 rfl _ _ HS1.out (parts_one (c := 9) (Blk.cell (Blk.new w1 _ _) 0) (R1.out.ext0 (x0 _ _)) (by decide) (by decide)) (by decide)).mono ?_; rintro e wA ⟨rfl, hw⟩; have XA : Hid (Ext None_ w wA) := Lib.hid (hw ▸ X1.out.trans0 (x0 w1 _)); clear hw R1 X1 HS1)
    | (refine wpList_mark rfl (.tmp 16) rfl wA.heap.size [49, 50, 51, 52] 4 rfl rfl (heap_alloc_new wA _) ?_; intro w2 hx hr; have X2 := Lib.hid (XA.out.trans0 (lit_ext (Nat.le_refl _) (x0 wA _) hx)); have R2 := Lib.hid hr; clear XA; clear hx hr)
    | (refine wpList_mark rfl (.tmp 18) rfl w2.heap.size [53, 54, 55, 56, 57] 5 rfl rfl (heap_alloc_new w2 _) ?_; intro w3 hx hr; have X3 := Lib.hid (X2.out.trans0 (lit_ext (Nat.le_refl _) (x0 w2 _) hx)); have R3 := Lib.hid hr; have R2b := Lib.hid (R2.out.ext0 (lit_ext (Nat.le_refl _) (x0 w2 _) hx)); clear X2 R2; clear hx hr)
    | (go_at_call 70; refine (ofK (some ⟨w3.heap.size, 0, none⟩) 2 [[49, 50, 51, 52], [53, 54, 55, 56, 57]] 2 rfl _ _ HS2.out (parts_two (c := 4) (c2 := 5) (Blk.cell (Blk.new w3 _ _) 0) (Blk.cell (Blk.new w3 _ _) 1) (R2b.out.ext0 (x0 _ _)) (R3.out.ext0 (x0 _ _)) (by decide) (by decide) (by decide) (by decide)) (by decide)).mono ?_; rintro e wB ⟨rfl, hw⟩; have XB : Hid (Ext None_ w wB) := Lib.hid (hw ▸ X3.out.trans0 (x0 w3 _)); clear hw R2b R3 X3 HS2)
    | (go_at_call 36; refine (seal_any none 0 [] _ (Row.nil _ _) (by decide) (by decide)).mono ?_; rintro e wC ⟨v, rfl, ho, hx⟩; rw [HS4.out] at ho; obtain ⟨As, cs, rfl, hcs, _, hr⟩ := Own.slice ho; have hcs4 : 4 ≤ cs := hcs; have XC := Lib.hid (XB.out.trans0 hx); have RC := Lib.hid hr; clear hx ho hr hcs HS4 XB)
    | (go_at_call 37; refine (openK As cs [0, 0, 0, 0] 4 rfl _ _ _ HO1.out RC.out (by decide) hcs4 (by decide)).mono ?_; rintro e wD ⟨A1, c1, rfl, _, hx⟩; have XD := Lib.hid (XC.out.trans0 hx); have RD := Lib.hid (RC.out.ext0 hx); clear hx HO1 XC RC)
    | (go_at_call 37; refine (openK (some ⟨wD.heap.size, 0, none⟩) 3 [1, 2, 3] 3 rfl _ _ _ HO2.out (Blk.row (Blk.new wD _ _)) (by decide) (by decide) (by decide)).mono ?_; rintro e wO2 ⟨A2, c2, rfl, hra, hx⟩; have XO2 := Lib.hid (XD.out.trans0 ((x0 wD _).trans0 hx)); have RO2 := Lib.hid (RD.out.ext0 ((x0 wD _).trans0 hx)); clear hx hra HO2 XD RD)
    | (go_at_call 37; refine (openK (some ⟨wO2.heap.size, 0, none⟩) 5 [97, 67, 190, 183, 232] 5 rfl _ _ _ HO3.out (Blk.row (Blk.new wO2 _ _)) (by decide) (by decide) (by decide)).mono ?_; rintro e wO3 ⟨A3, c3, rfl, hra, hx⟩; have XO3 := Lib.hid (XO2.out.trans0 ((x0 wO2 _).trans0 hx)); have RO3 := Lib.hid (RO2.out.ext0 ((x0 wO2 _).trans0 hx)); have RX := Lib.hid hra; clear hx hra HO3 XO2 RO2)
    | (go_at_call 37; refine (openK (some ⟨wO3.heap.size, 0, none⟩) 5 [97, 67, 190, 183, 233] 5 rfl _ _ _ HO4.out (Blk.row (Blk.new wO3 _ _)) (by decide) (by decide) (by decide)).mono ?_; rintro e wO4 ⟨A4, c4, rfl, hra, hx⟩; have XO4 := Lib.hid (XO3.out.trans0 ((x0 wO3 _).trans0 hx)); have RO4 := Lib.hid (RO3.out.ext0 ((x0 wO3 _).trans0 hx)); have RX2 := Lib.hid (RX.out.ext0 ((x0 wO3 _).trans0 hx)); clear RX; clear hx hra HO4 XO3 RO3)
    | (go_at_call 70; refine (ofK none 0 [] 0 rfl _ _ HS3.out (fun i l h => by simp at h) (by decide)).mono ?_; rintro e wE ⟨rfl, rfl⟩; clear HS3)
    | (go_at_call 25; refine (sameK As cs [0, 0, 0, 0] 4 rfl (some ⟨wO4.heap.size, 0, none⟩) 4 _ (RO4.out.ext0 (x0 _ _)) (Blk.row (Blk.new wO4 _ _)) (by decide)).mono ?_; rintro e wF ⟨rfl, hx⟩; have XF := Lib.hid (XO4.out.trans0 ((x0 wO4 _).trans0 hx)); have RX3 := Lib.hid (RX2.out.ext0 ((x0 wO4 _).trans0 hx)); clear hx RO4 XO4 RX2)
    | (refine wpList_mark rfl (.tmp 78) rfl wF.heap.size [97] 1 rfl rfl (heap_alloc_new wF _) ?_; intro w5 hx hr; have X5 := Lib.hid (XF.out.trans0 (lit_ext (Nat.le_refl _) (x0 wF _) hx)); have R5 := Lib.hid hr; have RX4 := Lib.hid (RX3.out.ext0 (lit_ext (Nat.le_refl _) (x0 wF _) hx)); clear XF RX3; clear hx hr)
    | (go_at_call 25; refine (sameK A3 c3 [97] 1 rfl (some ⟨wF.heap.size, 0, none⟩) 1 _ RX4.out R5.out (by decide)).mono ?_; rintro e wG ⟨rfl, hx⟩; have XG := Lib.hid (X5.out.trans0 hx); clear hx X5 RX4 R5))
  go_ret
  exact ⟨rfl, XG.out⟩
end Go.Proofs.Ytghkgfeamijefaa
