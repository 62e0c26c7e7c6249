/- Chapter 15's statements, walked: CommandGets. Written by gen_l15e.py. -/
import Derived.Test.YtmobdofkiddfhaaCmdZ
import Derived.Test.YtmobdofkiddfhaaCmdG3
import Derived.Test.YtmobdofkiddfhaaCmdG6
import Derived.Test.YtmobdofkiddfhaaReg2
import Derived.Test.YtmobdofkiddfhaaOpen
set_option linter.unusedVariables false
set_option linter.unusedSimpArgs false
namespace Go.Proofs.Ytmobdofkiddfhaa
open Go.RowKit B
set_option maxRecDepth 100000 in
set_option maxHeartbeats 1000000 in
theorem sameOrd (x : Ord) (w : World) : (Op.equalIn 10000 64 (.agg #[.int .i64 x.id, .int .i64 x.size, .int .i64 x.pick.p, .int .i64 x.pick.f, .int .i64 x.pick.t, .int .i64 x.pick.s, .int .i64 x.drop.p, .int .i64 x.drop.f, .int .i64 x.drop.t, .int .i64 x.drop.s]) (.agg #[.int .i64 x.id, .int .i64 x.size, .int .i64 x.pick.p, .int .i64 x.pick.f, .int .i64 x.pick.t, .int .i64 x.pick.s, .int .i64 x.drop.p, .int .i64 x.drop.f, .int .i64 x.drop.t, .int .i64 x.drop.s])).run Try.prog w = .ok true w := by
  have hS : Try.prog.underlying 64 = some (.struct (Try.prog.fieldsOf 64)) := by kernel_rfl
  rw [show (10000 : Nat) = 9999 + 1 from rfl, run_equalIn_agg w 9999 64 _ _ hS (by kernel_rfl)]
  simp only [Program.fieldsOf, Try.underlying64]
  go_simp
set_option maxRecDepth 100000 in
set_option maxHeartbeats 1000000 in
theorem sameDrv (x : Drv) (w : World) : (Op.equalIn 10000 66 (.agg #[.int .i64 x.id, .int .i64 x.room, .int .i64 x.home, .int .i64 x.f, .int .i64 x.t, .bool x.ret]) (.agg #[.int .i64 x.id, .int .i64 x.room, .int .i64 x.home, .int .i64 x.f, .int .i64 x.t, .bool x.ret])).run Try.prog w = .ok true w := by
  have hS : Try.prog.underlying 66 = some (.struct (Try.prog.fieldsOf 66)) := by kernel_rfl
  rw [show (10000 : Nat) = 9999 + 1 from rfl, run_equalIn_agg w 9999 66 _ _ hS (by kernel_rfl)]
  simp only [Program.fieldsOf, Try.underlying66]
  go_simp
set_option maxRecDepth 100000 in
set_option maxHeartbeats 1000000 in
theorem sameRep (x : Rep) (w : World) : (Op.equalIn 10000 77 (.agg #[.int .i64 x.why, .int .i64 x.state, .int .i64 x.drv, .int .i64 x.time]) (.agg #[.int .i64 x.why, .int .i64 x.state, .int .i64 x.drv, .int .i64 x.time])).run Try.prog w = .ok true w := by
  have hS : Try.prog.underlying 77 = some (.struct (Try.prog.fieldsOf 77)) := by kernel_rfl
  rw [show (10000 : Nat) = 9999 + 1 from rfl, run_equalIn_agg w 9999 77 _ _ hS (by kernel_rfl)]
  simp only [Program.fieldsOf, Try.underlying77]
  go_simp

def BothC (w : World) (g b g' b' : Nat) (l : List Int) (s : RS) : Prop := Rd w g b l s ∧ Rf w g' b' l s ∧ g ≠ g' ∧ g ≠ b' ∧ g' ≠ b
theorem within2 (n : Int) : ∃ k : Nat, within n 0 2 = (k : Int) ∧ k ≤ 2 := by
  have h1 := Int.emod_nonneg n (show (2 : Int) - 0 + 1 ≠ 0 by omega)
  have h2 := Int.emod_lt_of_pos n (show 0 < (2 : Int) - 0 + 1 by omega)
  refine ⟨(within n 0 2).toNat, ?_, ?_⟩ <;> unfold within <;> omega
theorem fldR (i : Nat) (k : Nat) (hk : (i, k) ∈ [(0, 0), (1, 1), (2, 2), (3, 3)]) (h : Nat) (W : World) : (Instr.fieldAt 95 (.pointer (some ⟨h, 0, none⟩)) i).run Try.prog W = .ok (.pointer (some ⟨h, k, none⟩)) W := by
  simp only [List.mem_cons, Prod.mk.injEq, List.not_mem_nil, or_false] at hk
  rcases hk with ⟨rfl, rfl⟩ | ⟨rfl, rfl⟩ | ⟨rfl, rfl⟩ | ⟨rfl, rfl⟩ <;> kernel_rfl
theorem fldF (g : Nat) (W : World) : (Instr.fieldAt 55 (.pointer (some ⟨g, 0, none⟩)) 0).run Try.prog W = .ok (.pointer (some ⟨g, 0, none⟩)) W := by kernel_rfl
theorem faultSize : (Try.prog.info? 53).map (·.size) = some 2 := by kernel_rfl
theorem fault_range {w : World} {g b : Nat} {l : List Int} {s : RS} (h : Rd w g b l s) : w.rangeAt g 0 [.int .i64 s.fa, .int .i64 s.fe] := by
  obtain ⟨A, c, ⟨c0, c1, c2, c3⟩, _⟩ := h.cells
  intro j v hj
  match j, hj with
  | 0, hj => cases hj; exact c0
  | 1, hj => cases hj; exact c1
theorem rf_cell {w : World} {g b : Nat} {l : List Int} {s : RS} (h : Rf w g b l s) : w.cell? ⟨g, 1, none⟩ = some (.int .i64 s.pos) ∧ w.cell? ⟨g, 2, none⟩ = some (.int .i64 s.fa) ∧ w.cell? ⟨g, 3, none⟩ = some (.int .i64 s.fe) := by
  obtain ⟨A, c, ⟨c0, c1, c2, c3⟩, _⟩ := h.cells
  exact ⟨c1, c2, c3⟩
set_option maxRecDepth 100000 in
set_option maxHeartbeats 16000000 in
theorem commandGets_row (b : List Int) {A : Option Addr} {c : Nat} {w : World} (hrow : Row w A (B8 b)) (hc : b.length ≤ c) (hm : c ≤ 140737488351232) (hby : Byt b) (first : Int) (hf : (Lit.int .i64 first).wf = true) :
    Calls Try.prog 16 #[.slice A b.length c, .int .i64 first] w fun e w' => e = .returned (.bool true) ∧ Ext None_ w w' := by
  have HROW := Lib.hid hrow
  have HBY := Lib.hid hby
  have HRUNS := Lib.hid runs15_any
  obtain ⟨k0, hk0, hk2⟩ := within2 first
  have HW := Lib.hid hk0
  have HWI := Lib.hid (fun W => within_any first 0 2 W (i64_of hf) (by omega) (by omega) (by omega))
  have hlen : b.length ≤ 140737488355328 := by omega
  clear hrow hby hk0 hf
  go_enter Try.func16, Try.ntmps16
  go_wp2_with fail
  refine (Read_any A c b _ HROW.out HBY.out (by omega)).mono ?_
  rintro e w1 ⟨g, g0, rfl, r, hg, hg0, x⟩
  have R := Lib.hid r
  have X1 := Lib.hid x
  clear r x
  go_wp2_with fail
  refine (rRead_any A c b _ (HROW.out.ext0 X1.out) HBY.out (by omega)).mono ?_
  rintro e w2 ⟨h, h0, rfl, r, hh, hh0, x⟩
  have hlt2 := R.out.lt
  have BO : Hid (BothC w2 g g0 h h0 b ⟨0, 0, 0⟩) := Lib.hid ⟨R.out.ext0 x, r, by omega, by omega, by omega⟩
  have X2 := Lib.hid (X1.out.trans0 x)
  have hgs : w.heap.size ≤ g := by omega
  have hhs : w.heap.size ≤ h := by omega
  clear r x R hlt2 X1
  go_wp2_with fail
  go_loopw [7] (fun v7 wr => ∃ (i : Nat) (s : RS), v7 = .int .i64 i ∧ i ≤ 3 ∧ Hid (BothC wr g g0 h h0 b s) ∧ Hid (Ext None_ w wr)) (fun v7 _ => 3 - (intOf v7).toNat)
  case atStart => exact ⟨0, ⟨0, 0, 0⟩, by go_num, by omega, BO, X2⟩
  case round =>
    obtain ⟨i, s, rfl, hi, hbo, hx⟩ := hrel
    by_cases hlt : i < 3
    · have hmod : ((i : Int) + (k0 : Int)) % 3 = 0 ∨ ((i : Int) + (k0 : Int)) % 3 = 1 ∨ ((i : Int) + (k0 : Int)) % 3 = 2 := by omega
      go_wp2_with fail
      refine (HWI.out _).mono ?_
      rw [HW.out]
      rintro e w0 ⟨rfl, rfl⟩
      rcases hmod with hmod | hmod | hmod
      · go_wp2_with fail
        refine (getOrd_any g g0 b s _ hbo.out.1).mono ?_
        rintro e w3 ⟨x1, s1, e1, rfl, r, x⟩
        have R3 := Lib.hid r
        have F3 := Lib.hid (hbo.out.2.1.ext x hbo.out.2.2.1.symm hbo.out.2.2.2.1.symm)
        have X3 : Hid (Ext None_ w w3) := Lib.hid (hx.out.trans x (fun k hk (e : k = g) => by omega))
        have E1 := Lib.hid e1
        clear r x e1
        go_wp2_with fail
        refine (rgetOrd_any h h0 b s _ F3.out).mono ?_
        rintro e w4 ⟨x2, s2, e2, rfl, r, x⟩
        rw [E1.out] at e2
        simp only [Prod.mk.injEq] at e2
        obtain ⟨rfl, rfl⟩ := e2
        have HBO : Hid (BothC w4.drew g g0 h h0 b s1) := Lib.hid ⟨(R3.out.ext x hbo.out.2.2.1 hbo.out.2.2.2.2.symm).drewN 1, Rf.drewN r 1, hbo.out.2.2⟩
        have X4 : Hid (Ext None_ w w4) := Lib.hid (X3.out.trans x (fun k hk (e : k = h) => by omega))
        clear r x R3 F3 E1
        have qe := fun W => sameOrd x1 W
        go_wp2_with fail
        refine wp_region_mem [sv (.bool true), sv (.bool false), sv (.bool false), sv (.pointer (some ⟨g, 0, none⟩)), sv (.int .i64 s1.pos), sv (.pointer (some ⟨h, 0, none⟩)), sv (.pointer (some ⟨h, 0, none⟩)), sv (.pointer (some ⟨h, 1, none⟩)), sv (.int .i64 s1.pos), sv (.bool false), sv (.bool false), sv (.bool false), sv (.pointer (some ⟨g, 0, none⟩)), sv (.pointer (some ⟨g, 0, none⟩)), sv (.pointer (some ⟨g, 0, none⟩)), sv (.agg #[.int .i64 s1.fa, .int .i64 s1.fe]), sv (.int .i64 s1.fe), sv (.pointer (some ⟨h, 0, none⟩)), sv (.pointer (some ⟨h, 0, none⟩)), sv (.pointer (some ⟨h, 3, none⟩)), sv (.int .i64 s1.fe), sv (.bool false), sv (.bool false), sv (.bool false), sv (.pointer (some ⟨g, 0, none⟩)), sv (.pointer (some ⟨g, 0, none⟩)), sv (.pointer (some ⟨g, 0, none⟩)), sv (.agg #[.int .i64 s1.fa, .int .i64 s1.fe]), sv (.int .i64 s1.fa), sv (.pointer (some ⟨h, 0, none⟩)), sv (.pointer (some ⟨h, 0, none⟩)), sv (.pointer (some ⟨h, 2, none⟩)), sv (.int .i64 s1.fa), sv (.bool false), sv (.bool false)] (by kernel_rfl) rfl rfl rfl rfl ⟨?_, ?_, ?_, ?_, ?_, ?_, ?_, ?_, ?_, ?_, ?_, ?_, ?_, ?_, ?_, ?_, ?_, ?_, ?_, ?_, ?_, ?_, ?_, ?_, ?_, ?_, ?_, ?_, ?_, ?_, ?_, ?_, ?_, ?_, ?_, trivial⟩ ?_
        · intro L a w1 hd hj K hK
          rw [if_pos (wanted_none rfl)]
          have f8 := hj.base 8 rfl rfl
          exact opMove hK rfl (ev f8) rfl
        · intro L a w1 hd hj K hK
          rw [if_pos (wanted_none rfl)]
          have f45 := hj.val 0 45 rfl rfl (by simp) rfl (hd ⟨0, .data⟩ (by simp) rfl)
          exact opNot hK rfl (ev f45) rfl
        · intro L a w1 hd hj K hK
          rw [if_pos (wanted_none rfl)]
          have f46 := hj.val 1 46 rfl rfl (by simp) rfl (hd ⟨1, .data⟩ (by simp) rfl)
          exact opMove hK rfl (ev f46) rfl
        · intro L a w1 hd hj K hK
          have fg := hj.val 2 47 rfl rfl (by simp) rfl (hd ⟨2, .guard⟩ (by simp) rfl)
          rw [wanted_some (c := false) rfl rfl rfl fg, if_pos (by rfl)]
          have f5 := hj.base 5 rfl rfl
          exact opMove hK rfl (ev f5) rfl
        · intro L a w1 hd hj K hK
          have fg := hj.val 2 47 rfl rfl (by simp) rfl (hd ⟨2, .guard⟩ (by simp) rfl)
          rw [wanted_some (c := false) rfl rfl rfl fg, if_pos (by rfl)]
          have f48 := hj.val 3 48 rfl rfl (by simp) rfl (hd ⟨3, .data⟩ (by simp) rfl)
          exact opCall hK Try.func37 (by kernel_rfl) rfl (args := #[.pointer (some ⟨g, 0, none⟩)]) (by simp [ev f48]) (call_of ((Next_any g g0 b s1 _ (HBO.out.1.ext0 hj.ext)).mono fun e w' ⟨h1, h2⟩ => ⟨h1, by subst h2; exact Ext.refl _ _⟩))
        · intro L a w1 hd hj K hK
          have fg := hj.val 2 47 rfl rfl (by simp) rfl (hd ⟨2, .guard⟩ (by simp) rfl)
          rw [wanted_some (c := false) rfl rfl rfl fg, if_pos (by rfl)]
          have f6 := hj.base 6 rfl rfl
          exact opMove hK rfl (ev f6) rfl
        · intro L a w1 hd hj K hK
          have fg := hj.val 2 47 rfl rfl (by simp) rfl (hd ⟨2, .guard⟩ (by simp) rfl)
          rw [wanted_some (c := false) rfl rfl rfl fg, if_pos (by rfl)]
          have f50 := hj.val 5 50 rfl rfl (by simp) rfl (hd ⟨5, .data⟩ (by simp) rfl)
          exact opNil hK rfl (ev f50) rfl
        · intro L a w1 hd hj K hK
          have fg := hj.val 2 47 rfl rfl (by simp) rfl (hd ⟨2, .guard⟩ (by simp) rfl)
          rw [wanted_some (c := false) rfl rfl rfl fg, if_pos (by rfl)]
          have f51 := hj.val 6 51 rfl rfl (by simp) rfl (hd ⟨6, .data⟩ (by simp) rfl)
          exact opField hK rfl (ev f51) (fun W => fldR 1 1 (by decide) h W) rfl
        · intro L a w1 hd hj K hK
          have fg := hj.val 2 47 rfl rfl (by simp) rfl (hd ⟨2, .guard⟩ (by simp) rfl)
          rw [wanted_some (c := false) rfl rfl rfl fg, if_pos (by rfl)]
          have f52 := hj.val 7 52 rfl rfl (by simp) rfl (hd ⟨7, .data⟩ (by simp) rfl)
          exact opLoad hK rfl (ev f52) Try.underlying3 rfl (rf_cell (HBO.out.2.1.ext0 hj.ext)).1 rfl
        · intro L a w1 hd hj K hK
          have fg := hj.val 2 47 rfl rfl (by simp) rfl (hd ⟨2, .guard⟩ (by simp) rfl)
          rw [wanted_some (c := false) rfl rfl rfl fg, if_pos (by rfl)]
          have f49 := hj.val 4 49 rfl rfl (by simp) rfl (hd ⟨4, .data⟩ (by simp) rfl)
          have f53 := hj.val 8 53 rfl rfl (by simp) rfl (hd ⟨8, .data⟩ (by simp) rfl)
          exact opBin hK rfl (ev f49) (ev f53) (guardInt _ _ _ _ _ _ _ _ _) (binNeInt _ _ _ _ _) (congrArg Value.bool (by simp))
        · intro L a w1 hd hj K hK
          rw [if_pos (wanted_none rfl)]
          have f47 := hj.val 2 47 rfl rfl (by simp) rfl (hd ⟨2, .data⟩ (by simp) rfl)
          have f54 := hj.val 9 54 rfl rfl (by simp) rfl (hd ⟨9, .data⟩ (by simp) rfl)
          exact opPick hK rfl (b := false) (ev f47) ((if_neg (by decide)).trans (ev f54)) rfl
        · intro L a w1 hd hj K hK
          rw [if_pos (wanted_none rfl)]
          have f55 := hj.val 10 55 rfl rfl (by simp) rfl (hd ⟨10, .data⟩ (by simp) rfl)
          exact opMove hK rfl (ev f55) rfl
        · intro L a w1 hd hj K hK
          have fg := hj.val 11 56 rfl rfl (by simp) rfl (hd ⟨11, .guard⟩ (by simp) rfl)
          rw [wanted_some (c := false) rfl rfl rfl fg, if_pos (by rfl)]
          have f5 := hj.base 5 rfl rfl
          exact opMove hK rfl (ev f5) rfl
        · intro L a w1 hd hj K hK
          have fg := hj.val 11 56 rfl rfl (by simp) rfl (hd ⟨11, .guard⟩ (by simp) rfl)
          rw [wanted_some (c := false) rfl rfl rfl fg, if_pos (by rfl)]
          have f57 := hj.val 12 57 rfl rfl (by simp) rfl (hd ⟨12, .data⟩ (by simp) rfl)
          exact opNil hK rfl (ev f57) rfl
        · intro L a w1 hd hj K hK
          have fg := hj.val 11 56 rfl rfl (by simp) rfl (hd ⟨11, .guard⟩ (by simp) rfl)
          rw [wanted_some (c := false) rfl rfl rfl fg, if_pos (by rfl)]
          have f58 := hj.val 13 58 rfl rfl (by simp) rfl (hd ⟨13, .data⟩ (by simp) rfl)
          exact opField hK rfl (ev f58) (fun W => fldF g W) rfl
        · intro L a w1 hd hj K hK
          have fg := hj.val 11 56 rfl rfl (by simp) rfl (hd ⟨11, .guard⟩ (by simp) rfl)
          rw [wanted_some (c := false) rfl rfl rfl fg, if_pos (by rfl)]
          have f59 := hj.val 14 59 rfl rfl (by simp) rfl (hd ⟨14, .data⟩ (by simp) rfl)
          exact opLoadMid hK rfl g 0 (ev f59) [.int .i64 s1.fa, .int .i64 s1.fe] (fault_range (HBO.out.1.ext0 hj.ext)) Try.underlying53 rfl faultSize rfl
        · intro L a w1 hd hj K hK
          have fg := hj.val 11 56 rfl rfl (by simp) rfl (hd ⟨11, .guard⟩ (by simp) rfl)
          rw [wanted_some (c := false) rfl rfl rfl fg, if_pos (by rfl)]
          have f60 := hj.val 15 60 rfl rfl (by simp) rfl (hd ⟨15, .data⟩ (by simp) rfl)
          exact opCall hK Try.func40 (by kernel_rfl) rfl (args := #[.agg #[.int .i64 s1.fa, .int .i64 s1.fe]]) (by simp [ev f60]) (call_of (err_any _ _ _))
        · intro L a w1 hd hj K hK
          have fg := hj.val 11 56 rfl rfl (by simp) rfl (hd ⟨11, .guard⟩ (by simp) rfl)
          rw [wanted_some (c := false) rfl rfl rfl fg, if_pos (by rfl)]
          have f6 := hj.base 6 rfl rfl
          exact opMove hK rfl (ev f6) rfl
        · intro L a w1 hd hj K hK
          have fg := hj.val 11 56 rfl rfl (by simp) rfl (hd ⟨11, .guard⟩ (by simp) rfl)
          rw [wanted_some (c := false) rfl rfl rfl fg, if_pos (by rfl)]
          have f62 := hj.val 17 62 rfl rfl (by simp) rfl (hd ⟨17, .data⟩ (by simp) rfl)
          exact opNil hK rfl (ev f62) rfl
        · intro L a w1 hd hj K hK
          have fg := hj.val 11 56 rfl rfl (by simp) rfl (hd ⟨11, .guard⟩ (by simp) rfl)
          rw [wanted_some (c := false) rfl rfl rfl fg, if_pos (by rfl)]
          have f63 := hj.val 18 63 rfl rfl (by simp) rfl (hd ⟨18, .data⟩ (by simp) rfl)
          exact opField hK rfl (ev f63) (fun W => fldR 3 3 (by decide) h W) rfl
        · intro L a w1 hd hj K hK
          have fg := hj.val 11 56 rfl rfl (by simp) rfl (hd ⟨11, .guard⟩ (by simp) rfl)
          rw [wanted_some (c := false) rfl rfl rfl fg, if_pos (by rfl)]
          have f64 := hj.val 19 64 rfl rfl (by simp) rfl (hd ⟨19, .data⟩ (by simp) rfl)
          exact opLoad hK rfl (ev f64) Try.underlying3 rfl (rf_cell (HBO.out.2.1.ext0 hj.ext)).2.2 rfl
        · intro L a w1 hd hj K hK
          have fg := hj.val 11 56 rfl rfl (by simp) rfl (hd ⟨11, .guard⟩ (by simp) rfl)
          rw [wanted_some (c := false) rfl rfl rfl fg, if_pos (by rfl)]
          have f61 := hj.val 16 61 rfl rfl (by simp) rfl (hd ⟨16, .data⟩ (by simp) rfl)
          have f65 := hj.val 20 65 rfl rfl (by simp) rfl (hd ⟨20, .data⟩ (by simp) rfl)
          exact opBin hK rfl (ev f61) (ev f65) (guardInt _ _ _ _ _ _ _ _ _) (binNeInt _ _ _ _ _) (congrArg Value.bool (by simp))
        · intro L a w1 hd hj K hK
          rw [if_pos (wanted_none rfl)]
          have f56 := hj.val 11 56 rfl rfl (by simp) rfl (hd ⟨11, .data⟩ (by simp) rfl)
          have f66 := hj.val 21 66 rfl rfl (by simp) rfl (hd ⟨21, .data⟩ (by simp) rfl)
          exact opPick hK rfl (b := false) (ev f56) ((if_neg (by decide)).trans (ev f66)) rfl
        · intro L a w1 hd hj K hK
          rw [if_pos (wanted_none rfl)]
          have f67 := hj.val 22 67 rfl rfl (by simp) rfl (hd ⟨22, .data⟩ (by simp) rfl)
          exact opMove hK rfl (ev f67) rfl
        · intro L a w1 hd hj K hK
          have fg := hj.val 23 68 rfl rfl (by simp) rfl (hd ⟨23, .guard⟩ (by simp) rfl)
          rw [wanted_some (c := false) rfl rfl rfl fg, if_pos (by rfl)]
          have f5 := hj.base 5 rfl rfl
          exact opMove hK rfl (ev f5) rfl
        · intro L a w1 hd hj K hK
          have fg := hj.val 23 68 rfl rfl (by simp) rfl (hd ⟨23, .guard⟩ (by simp) rfl)
          rw [wanted_some (c := false) rfl rfl rfl fg, if_pos (by rfl)]
          have f69 := hj.val 24 69 rfl rfl (by simp) rfl (hd ⟨24, .data⟩ (by simp) rfl)
          exact opNil hK rfl (ev f69) rfl
        · intro L a w1 hd hj K hK
          have fg := hj.val 23 68 rfl rfl (by simp) rfl (hd ⟨23, .guard⟩ (by simp) rfl)
          rw [wanted_some (c := false) rfl rfl rfl fg, if_pos (by rfl)]
          have f70 := hj.val 25 70 rfl rfl (by simp) rfl (hd ⟨25, .data⟩ (by simp) rfl)
          exact opField hK rfl (ev f70) (fun W => fldF g W) rfl
        · intro L a w1 hd hj K hK
          have fg := hj.val 23 68 rfl rfl (by simp) rfl (hd ⟨23, .guard⟩ (by simp) rfl)
          rw [wanted_some (c := false) rfl rfl rfl fg, if_pos (by rfl)]
          have f71 := hj.val 26 71 rfl rfl (by simp) rfl (hd ⟨26, .data⟩ (by simp) rfl)
          exact opLoadMid hK rfl g 0 (ev f71) [.int .i64 s1.fa, .int .i64 s1.fe] (fault_range (HBO.out.1.ext0 hj.ext)) Try.underlying53 rfl faultSize rfl
        · intro L a w1 hd hj K hK
          have fg := hj.val 23 68 rfl rfl (by simp) rfl (hd ⟨23, .guard⟩ (by simp) rfl)
          rw [wanted_some (c := false) rfl rfl rfl fg, if_pos (by rfl)]
          have f72 := hj.val 27 72 rfl rfl (by simp) rfl (hd ⟨27, .data⟩ (by simp) rfl)
          exact opCall hK Try.func38 (by kernel_rfl) rfl (args := #[.agg #[.int .i64 s1.fa, .int .i64 s1.fe]]) (by simp [ev f72]) (call_of (where_any _ _ _))
        · intro L a w1 hd hj K hK
          have fg := hj.val 23 68 rfl rfl (by simp) rfl (hd ⟨23, .guard⟩ (by simp) rfl)
          rw [wanted_some (c := false) rfl rfl rfl fg, if_pos (by rfl)]
          have f6 := hj.base 6 rfl rfl
          exact opMove hK rfl (ev f6) rfl
        · intro L a w1 hd hj K hK
          have fg := hj.val 23 68 rfl rfl (by simp) rfl (hd ⟨23, .guard⟩ (by simp) rfl)
          rw [wanted_some (c := false) rfl rfl rfl fg, if_pos (by rfl)]
          have f74 := hj.val 29 74 rfl rfl (by simp) rfl (hd ⟨29, .data⟩ (by simp) rfl)
          exact opNil hK rfl (ev f74) rfl
        · intro L a w1 hd hj K hK
          have fg := hj.val 23 68 rfl rfl (by simp) rfl (hd ⟨23, .guard⟩ (by simp) rfl)
          rw [wanted_some (c := false) rfl rfl rfl fg, if_pos (by rfl)]
          have f75 := hj.val 30 75 rfl rfl (by simp) rfl (hd ⟨30, .data⟩ (by simp) rfl)
          exact opField hK rfl (ev f75) (fun W => fldR 2 2 (by decide) h W) rfl
        · intro L a w1 hd hj K hK
          have fg := hj.val 23 68 rfl rfl (by simp) rfl (hd ⟨23, .guard⟩ (by simp) rfl)
          rw [wanted_some (c := false) rfl rfl rfl fg, if_pos (by rfl)]
          have f76 := hj.val 31 76 rfl rfl (by simp) rfl (hd ⟨31, .data⟩ (by simp) rfl)
          exact opLoad hK rfl (ev f76) Try.underlying3 rfl (rf_cell (HBO.out.2.1.ext0 hj.ext)).2.1 rfl
        · intro L a w1 hd hj K hK
          have fg := hj.val 23 68 rfl rfl (by simp) rfl (hd ⟨23, .guard⟩ (by simp) rfl)
          rw [wanted_some (c := false) rfl rfl rfl fg, if_pos (by rfl)]
          have f73 := hj.val 28 73 rfl rfl (by simp) rfl (hd ⟨28, .data⟩ (by simp) rfl)
          have f77 := hj.val 32 77 rfl rfl (by simp) rfl (hd ⟨32, .data⟩ (by simp) rfl)
          exact opBin hK rfl (ev f73) (ev f77) (guardInt _ _ _ _ _ _ _ _ _) (binNeInt _ _ _ _ _) (congrArg Value.bool (by simp))
        · intro L a w1 hd hj K hK
          rw [if_pos (wanted_none rfl)]
          have f68 := hj.val 23 68 rfl rfl (by simp) rfl (hd ⟨23, .data⟩ (by simp) rfl)
          have f78 := hj.val 33 78 rfl rfl (by simp) rfl (hd ⟨33, .data⟩ (by simp) rfl)
          exact opPick hK rfl (b := false) (ev f68) ((if_neg (by decide)).trans (ev f78)) rfl
        intro vs w5 hx5 hg5
        have v34 : vs 34 = .bool false := hg5 34 (by simp)
        have X5 : Hid (Ext None_ w w5) := Lib.hid (X4.out.drew.trans0 hx5)
        have HB5 : Hid (BothC w5 g g0 h h0 b s1) := Lib.hid ⟨HBO.out.1.ext0 hx5, HBO.out.2.1.ext0 hx5, HBO.out.2.2⟩
        clear hx5 hg5 qe hmod HBO X4 X3
        simp only [putAll, v34, Nat.reduceAdd, Nat.zero_add]
        simp only [Act.put, List.setIfInBounds_toArray, List.set_cons_succ, List.set_cons_zero]
        go_wp2_with fail
        exact ⟨⟨i + 1, s1, by go_num, by omega, HB5, X5⟩, by simp [intOf]; omega⟩
      · go_wp2_with fail
        refine (getDrv_any g g0 b s _ hbo.out.1).mono ?_
        rintro e w3 ⟨x1, s1, e1, rfl, r, x⟩
        have R3 := Lib.hid r
        have F3 := Lib.hid (hbo.out.2.1.ext x hbo.out.2.2.1.symm hbo.out.2.2.2.1.symm)
        have X3 : Hid (Ext None_ w w3) := Lib.hid (hx.out.trans x (fun k hk (e : k = g) => by omega))
        have E1 := Lib.hid e1
        clear r x e1
        go_wp2_with fail
        refine (rgetDrv_any h h0 b s _ F3.out).mono ?_
        rintro e w4 ⟨x2, s2, e2, rfl, r, x⟩
        rw [E1.out] at e2
        simp only [Prod.mk.injEq] at e2
        obtain ⟨rfl, rfl⟩ := e2
        have HBO : Hid (BothC w4.drew g g0 h h0 b s1) := Lib.hid ⟨(R3.out.ext x hbo.out.2.2.1 hbo.out.2.2.2.2.symm).drewN 1, Rf.drewN r 1, hbo.out.2.2⟩
        have X4 : Hid (Ext None_ w w4) := Lib.hid (X3.out.trans x (fun k hk (e : k = h) => by omega))
        clear r x R3 F3 E1
        have qe := fun W => sameDrv x1 W
        go_wp2_with fail
        refine wp_region_mem [sv (.bool true), sv (.bool false), sv (.bool false), sv (.pointer (some ⟨g, 0, none⟩)), sv (.int .i64 s1.pos), sv (.pointer (some ⟨h, 0, none⟩)), sv (.pointer (some ⟨h, 0, none⟩)), sv (.pointer (some ⟨h, 1, none⟩)), sv (.int .i64 s1.pos), sv (.bool false), sv (.bool false), sv (.bool false), sv (.pointer (some ⟨g, 0, none⟩)), sv (.pointer (some ⟨g, 0, none⟩)), sv (.pointer (some ⟨g, 0, none⟩)), sv (.agg #[.int .i64 s1.fa, .int .i64 s1.fe]), sv (.int .i64 s1.fe), sv (.pointer (some ⟨h, 0, none⟩)), sv (.pointer (some ⟨h, 0, none⟩)), sv (.pointer (some ⟨h, 3, none⟩)), sv (.int .i64 s1.fe), sv (.bool false), sv (.bool false), sv (.bool false), sv (.pointer (some ⟨g, 0, none⟩)), sv (.pointer (some ⟨g, 0, none⟩)), sv (.pointer (some ⟨g, 0, none⟩)), sv (.agg #[.int .i64 s1.fa, .int .i64 s1.fe]), sv (.int .i64 s1.fa), sv (.pointer (some ⟨h, 0, none⟩)), sv (.pointer (some ⟨h, 0, none⟩)), sv (.pointer (some ⟨h, 2, none⟩)), sv (.int .i64 s1.fa), sv (.bool false), sv (.bool false)] (by kernel_rfl) rfl rfl rfl rfl ⟨?_, ?_, ?_, ?_, ?_, ?_, ?_, ?_, ?_, ?_, ?_, ?_, ?_, ?_, ?_, ?_, ?_, ?_, ?_, ?_, ?_, ?_, ?_, ?_, ?_, ?_, ?_, ?_, ?_, ?_, ?_, ?_, ?_, ?_, ?_, trivial⟩ ?_
        · intro L a w1 hd hj K hK
          rw [if_pos (wanted_none rfl)]
          have f8 := hj.base 8 rfl rfl
          exact opMove hK rfl (ev f8) rfl
        · intro L a w1 hd hj K hK
          rw [if_pos (wanted_none rfl)]
          have f45 := hj.val 0 45 rfl rfl (by simp) rfl (hd ⟨0, .data⟩ (by simp) rfl)
          exact opNot hK rfl (ev f45) rfl
        · intro L a w1 hd hj K hK
          rw [if_pos (wanted_none rfl)]
          have f46 := hj.val 1 46 rfl rfl (by simp) rfl (hd ⟨1, .data⟩ (by simp) rfl)
          exact opMove hK rfl (ev f46) rfl
        · intro L a w1 hd hj K hK
          have fg := hj.val 2 47 rfl rfl (by simp) rfl (hd ⟨2, .guard⟩ (by simp) rfl)
          rw [wanted_some (c := false) rfl rfl rfl fg, if_pos (by rfl)]
          have f5 := hj.base 5 rfl rfl
          exact opMove hK rfl (ev f5) rfl
        · intro L a w1 hd hj K hK
          have fg := hj.val 2 47 rfl rfl (by simp) rfl (hd ⟨2, .guard⟩ (by simp) rfl)
          rw [wanted_some (c := false) rfl rfl rfl fg, if_pos (by rfl)]
          have f48 := hj.val 3 48 rfl rfl (by simp) rfl (hd ⟨3, .data⟩ (by simp) rfl)
          exact opCall hK Try.func37 (by kernel_rfl) rfl (args := #[.pointer (some ⟨g, 0, none⟩)]) (by simp [ev f48]) (call_of ((Next_any g g0 b s1 _ (HBO.out.1.ext0 hj.ext)).mono fun e w' ⟨h1, h2⟩ => ⟨h1, by subst h2; exact Ext.refl _ _⟩))
        · intro L a w1 hd hj K hK
          have fg := hj.val 2 47 rfl rfl (by simp) rfl (hd ⟨2, .guard⟩ (by simp) rfl)
          rw [wanted_some (c := false) rfl rfl rfl fg, if_pos (by rfl)]
          have f6 := hj.base 6 rfl rfl
          exact opMove hK rfl (ev f6) rfl
        · intro L a w1 hd hj K hK
          have fg := hj.val 2 47 rfl rfl (by simp) rfl (hd ⟨2, .guard⟩ (by simp) rfl)
          rw [wanted_some (c := false) rfl rfl rfl fg, if_pos (by rfl)]
          have f50 := hj.val 5 50 rfl rfl (by simp) rfl (hd ⟨5, .data⟩ (by simp) rfl)
          exact opNil hK rfl (ev f50) rfl
        · intro L a w1 hd hj K hK
          have fg := hj.val 2 47 rfl rfl (by simp) rfl (hd ⟨2, .guard⟩ (by simp) rfl)
          rw [wanted_some (c := false) rfl rfl rfl fg, if_pos (by rfl)]
          have f51 := hj.val 6 51 rfl rfl (by simp) rfl (hd ⟨6, .data⟩ (by simp) rfl)
          exact opField hK rfl (ev f51) (fun W => fldR 1 1 (by decide) h W) rfl
        · intro L a w1 hd hj K hK
          have fg := hj.val 2 47 rfl rfl (by simp) rfl (hd ⟨2, .guard⟩ (by simp) rfl)
          rw [wanted_some (c := false) rfl rfl rfl fg, if_pos (by rfl)]
          have f52 := hj.val 7 52 rfl rfl (by simp) rfl (hd ⟨7, .data⟩ (by simp) rfl)
          exact opLoad hK rfl (ev f52) Try.underlying3 rfl (rf_cell (HBO.out.2.1.ext0 hj.ext)).1 rfl
        · intro L a w1 hd hj K hK
          have fg := hj.val 2 47 rfl rfl (by simp) rfl (hd ⟨2, .guard⟩ (by simp) rfl)
          rw [wanted_some (c := false) rfl rfl rfl fg, if_pos (by rfl)]
          have f49 := hj.val 4 49 rfl rfl (by simp) rfl (hd ⟨4, .data⟩ (by simp) rfl)
          have f53 := hj.val 8 53 rfl rfl (by simp) rfl (hd ⟨8, .data⟩ (by simp) rfl)
          exact opBin hK rfl (ev f49) (ev f53) (guardInt _ _ _ _ _ _ _ _ _) (binNeInt _ _ _ _ _) (congrArg Value.bool (by simp))
        · intro L a w1 hd hj K hK
          rw [if_pos (wanted_none rfl)]
          have f47 := hj.val 2 47 rfl rfl (by simp) rfl (hd ⟨2, .data⟩ (by simp) rfl)
          have f54 := hj.val 9 54 rfl rfl (by simp) rfl (hd ⟨9, .data⟩ (by simp) rfl)
          exact opPick hK rfl (b := false) (ev f47) ((if_neg (by decide)).trans (ev f54)) rfl
        · intro L a w1 hd hj K hK
          rw [if_pos (wanted_none rfl)]
          have f55 := hj.val 10 55 rfl rfl (by simp) rfl (hd ⟨10, .data⟩ (by simp) rfl)
          exact opMove hK rfl (ev f55) rfl
        · intro L a w1 hd hj K hK
          have fg := hj.val 11 56 rfl rfl (by simp) rfl (hd ⟨11, .guard⟩ (by simp) rfl)
          rw [wanted_some (c := false) rfl rfl rfl fg, if_pos (by rfl)]
          have f5 := hj.base 5 rfl rfl
          exact opMove hK rfl (ev f5) rfl
        · intro L a w1 hd hj K hK
          have fg := hj.val 11 56 rfl rfl (by simp) rfl (hd ⟨11, .guard⟩ (by simp) rfl)
          rw [wanted_some (c := false) rfl rfl rfl fg, if_pos (by rfl)]
          have f57 := hj.val 12 57 rfl rfl (by simp) rfl (hd ⟨12, .data⟩ (by simp) rfl)
          exact opNil hK rfl (ev f57) rfl
        · intro L a w1 hd hj K hK
          have fg := hj.val 11 56 rfl rfl (by simp) rfl (hd ⟨11, .guard⟩ (by simp) rfl)
          rw [wanted_some (c := false) rfl rfl rfl fg, if_pos (by rfl)]
          have f58 := hj.val 13 58 rfl rfl (by simp) rfl (hd ⟨13, .data⟩ (by simp) rfl)
          exact opField hK rfl (ev f58) (fun W => fldF g W) rfl
        · intro L a w1 hd hj K hK
          have fg := hj.val 11 56 rfl rfl (by simp) rfl (hd ⟨11, .guard⟩ (by simp) rfl)
          rw [wanted_some (c := false) rfl rfl rfl fg, if_pos (by rfl)]
          have f59 := hj.val 14 59 rfl rfl (by simp) rfl (hd ⟨14, .data⟩ (by simp) rfl)
          exact opLoadMid hK rfl g 0 (ev f59) [.int .i64 s1.fa, .int .i64 s1.fe] (fault_range (HBO.out.1.ext0 hj.ext)) Try.underlying53 rfl faultSize rfl
        · intro L a w1 hd hj K hK
          have fg := hj.val 11 56 rfl rfl (by simp) rfl (hd ⟨11, .guard⟩ (by simp) rfl)
          rw [wanted_some (c := false) rfl rfl rfl fg, if_pos (by rfl)]
          have f60 := hj.val 15 60 rfl rfl (by simp) rfl (hd ⟨15, .data⟩ (by simp) rfl)
          exact opCall hK Try.func40 (by kernel_rfl) rfl (args := #[.agg #[.int .i64 s1.fa, .int .i64 s1.fe]]) (by simp [ev f60]) (call_of (err_any _ _ _))
        · intro L a w1 hd hj K hK
          have fg := hj.val 11 56 rfl rfl (by simp) rfl (hd ⟨11, .guard⟩ (by simp) rfl)
          rw [wanted_some (c := false) rfl rfl rfl fg, if_pos (by rfl)]
          have f6 := hj.base 6 rfl rfl
          exact opMove hK rfl (ev f6) rfl
        · intro L a w1 hd hj K hK
          have fg := hj.val 11 56 rfl rfl (by simp) rfl (hd ⟨11, .guard⟩ (by simp) rfl)
          rw [wanted_some (c := false) rfl rfl rfl fg, if_pos (by rfl)]
          have f62 := hj.val 17 62 rfl rfl (by simp) rfl (hd ⟨17, .data⟩ (by simp) rfl)
          exact opNil hK rfl (ev f62) rfl
        · intro L a w1 hd hj K hK
          have fg := hj.val 11 56 rfl rfl (by simp) rfl (hd ⟨11, .guard⟩ (by simp) rfl)
          rw [wanted_some (c := false) rfl rfl rfl fg, if_pos (by rfl)]
          have f63 := hj.val 18 63 rfl rfl (by simp) rfl (hd ⟨18, .data⟩ (by simp) rfl)
          exact opField hK rfl (ev f63) (fun W => fldR 3 3 (by decide) h W) rfl
        · intro L a w1 hd hj K hK
          have fg := hj.val 11 56 rfl rfl (by simp) rfl (hd ⟨11, .guard⟩ (by simp) rfl)
          rw [wanted_some (c := false) rfl rfl rfl fg, if_pos (by rfl)]
          have f64 := hj.val 19 64 rfl rfl (by simp) rfl (hd ⟨19, .data⟩ (by simp) rfl)
          exact opLoad hK rfl (ev f64) Try.underlying3 rfl (rf_cell (HBO.out.2.1.ext0 hj.ext)).2.2 rfl
        · intro L a w1 hd hj K hK
          have fg := hj.val 11 56 rfl rfl (by simp) rfl (hd ⟨11, .guard⟩ (by simp) rfl)
          rw [wanted_some (c := false) rfl rfl rfl fg, if_pos (by rfl)]
          have f61 := hj.val 16 61 rfl rfl (by simp) rfl (hd ⟨16, .data⟩ (by simp) rfl)
          have f65 := hj.val 20 65 rfl rfl (by simp) rfl (hd ⟨20, .data⟩ (by simp) rfl)
          exact opBin hK rfl (ev f61) (ev f65) (guardInt _ _ _ _ _ _ _ _ _) (binNeInt _ _ _ _ _) (congrArg Value.bool (by simp))
        · intro L a w1 hd hj K hK
          rw [if_pos (wanted_none rfl)]
          have f56 := hj.val 11 56 rfl rfl (by simp) rfl (hd ⟨11, .data⟩ (by simp) rfl)
          have f66 := hj.val 21 66 rfl rfl (by simp) rfl (hd ⟨21, .data⟩ (by simp) rfl)
          exact opPick hK rfl (b := false) (ev f56) ((if_neg (by decide)).trans (ev f66)) rfl
        · intro L a w1 hd hj K hK
          rw [if_pos (wanted_none rfl)]
          have f67 := hj.val 22 67 rfl rfl (by simp) rfl (hd ⟨22, .data⟩ (by simp) rfl)
          exact opMove hK rfl (ev f67) rfl
        · intro L a w1 hd hj K hK
          have fg := hj.val 23 68 rfl rfl (by simp) rfl (hd ⟨23, .guard⟩ (by simp) rfl)
          rw [wanted_some (c := false) rfl rfl rfl fg, if_pos (by rfl)]
          have f5 := hj.base 5 rfl rfl
          exact opMove hK rfl (ev f5) rfl
        · intro L a w1 hd hj K hK
          have fg := hj.val 23 68 rfl rfl (by simp) rfl (hd ⟨23, .guard⟩ (by simp) rfl)
          rw [wanted_some (c := false) rfl rfl rfl fg, if_pos (by rfl)]
          have f69 := hj.val 24 69 rfl rfl (by simp) rfl (hd ⟨24, .data⟩ (by simp) rfl)
          exact opNil hK rfl (ev f69) rfl
        · intro L a w1 hd hj K hK
          have fg := hj.val 23 68 rfl rfl (by simp) rfl (hd ⟨23, .guard⟩ (by simp) rfl)
          rw [wanted_some (c := false) rfl rfl rfl fg, if_pos (by rfl)]
          have f70 := hj.val 25 70 rfl rfl (by simp) rfl (hd ⟨25, .data⟩ (by simp) rfl)
          exact opField hK rfl (ev f70) (fun W => fldF g W) rfl
        · intro L a w1 hd hj K hK
          have fg := hj.val 23 68 rfl rfl (by simp) rfl (hd ⟨23, .guard⟩ (by simp) rfl)
          rw [wanted_some (c := false) rfl rfl rfl fg, if_pos (by rfl)]
          have f71 := hj.val 26 71 rfl rfl (by simp) rfl (hd ⟨26, .data⟩ (by simp) rfl)
          exact opLoadMid hK rfl g 0 (ev f71) [.int .i64 s1.fa, .int .i64 s1.fe] (fault_range (HBO.out.1.ext0 hj.ext)) Try.underlying53 rfl faultSize rfl
        · intro L a w1 hd hj K hK
          have fg := hj.val 23 68 rfl rfl (by simp) rfl (hd ⟨23, .guard⟩ (by simp) rfl)
          rw [wanted_some (c := false) rfl rfl rfl fg, if_pos (by rfl)]
          have f72 := hj.val 27 72 rfl rfl (by simp) rfl (hd ⟨27, .data⟩ (by simp) rfl)
          exact opCall hK Try.func38 (by kernel_rfl) rfl (args := #[.agg #[.int .i64 s1.fa, .int .i64 s1.fe]]) (by simp [ev f72]) (call_of (where_any _ _ _))
        · intro L a w1 hd hj K hK
          have fg := hj.val 23 68 rfl rfl (by simp) rfl (hd ⟨23, .guard⟩ (by simp) rfl)
          rw [wanted_some (c := false) rfl rfl rfl fg, if_pos (by rfl)]
          have f6 := hj.base 6 rfl rfl
          exact opMove hK rfl (ev f6) rfl
        · intro L a w1 hd hj K hK
          have fg := hj.val 23 68 rfl rfl (by simp) rfl (hd ⟨23, .guard⟩ (by simp) rfl)
          rw [wanted_some (c := false) rfl rfl rfl fg, if_pos (by rfl)]
          have f74 := hj.val 29 74 rfl rfl (by simp) rfl (hd ⟨29, .data⟩ (by simp) rfl)
          exact opNil hK rfl (ev f74) rfl
        · intro L a w1 hd hj K hK
          have fg := hj.val 23 68 rfl rfl (by simp) rfl (hd ⟨23, .guard⟩ (by simp) rfl)
          rw [wanted_some (c := false) rfl rfl rfl fg, if_pos (by rfl)]
          have f75 := hj.val 30 75 rfl rfl (by simp) rfl (hd ⟨30, .data⟩ (by simp) rfl)
          exact opField hK rfl (ev f75) (fun W => fldR 2 2 (by decide) h W) rfl
        · intro L a w1 hd hj K hK
          have fg := hj.val 23 68 rfl rfl (by simp) rfl (hd ⟨23, .guard⟩ (by simp) rfl)
          rw [wanted_some (c := false) rfl rfl rfl fg, if_pos (by rfl)]
          have f76 := hj.val 31 76 rfl rfl (by simp) rfl (hd ⟨31, .data⟩ (by simp) rfl)
          exact opLoad hK rfl (ev f76) Try.underlying3 rfl (rf_cell (HBO.out.2.1.ext0 hj.ext)).2.1 rfl
        · intro L a w1 hd hj K hK
          have fg := hj.val 23 68 rfl rfl (by simp) rfl (hd ⟨23, .guard⟩ (by simp) rfl)
          rw [wanted_some (c := false) rfl rfl rfl fg, if_pos (by rfl)]
          have f73 := hj.val 28 73 rfl rfl (by simp) rfl (hd ⟨28, .data⟩ (by simp) rfl)
          have f77 := hj.val 32 77 rfl rfl (by simp) rfl (hd ⟨32, .data⟩ (by simp) rfl)
          exact opBin hK rfl (ev f73) (ev f77) (guardInt _ _ _ _ _ _ _ _ _) (binNeInt _ _ _ _ _) (congrArg Value.bool (by simp))
        · intro L a w1 hd hj K hK
          rw [if_pos (wanted_none rfl)]
          have f68 := hj.val 23 68 rfl rfl (by simp) rfl (hd ⟨23, .data⟩ (by simp) rfl)
          have f78 := hj.val 33 78 rfl rfl (by simp) rfl (hd ⟨33, .data⟩ (by simp) rfl)
          exact opPick hK rfl (b := false) (ev f68) ((if_neg (by decide)).trans (ev f78)) rfl
        intro vs w5 hx5 hg5
        have v34 : vs 34 = .bool false := hg5 34 (by simp)
        have X5 : Hid (Ext None_ w w5) := Lib.hid (X4.out.drew.trans0 hx5)
        have HB5 : Hid (BothC w5 g g0 h h0 b s1) := Lib.hid ⟨HBO.out.1.ext0 hx5, HBO.out.2.1.ext0 hx5, HBO.out.2.2⟩
        clear hx5 hg5 qe hmod HBO X4 X3
        simp only [putAll, v34, Nat.reduceAdd, Nat.zero_add]
        simp only [Act.put, List.setIfInBounds_toArray, List.set_cons_succ, List.set_cons_zero]
        go_wp2_with fail
        exact ⟨⟨i + 1, s1, by go_num, by omega, HB5, X5⟩, by simp [intOf]; omega⟩
      · go_wp2_with fail
        refine (getRep_any g g0 b s _ hbo.out.1).mono ?_
        rintro e w3 ⟨x1, s1, e1, rfl, r, x⟩
        have R3 := Lib.hid r
        have F3 := Lib.hid (hbo.out.2.1.ext x hbo.out.2.2.1.symm hbo.out.2.2.2.1.symm)
        have X3 : Hid (Ext None_ w w3) := Lib.hid (hx.out.trans x (fun k hk (e : k = g) => by omega))
        have E1 := Lib.hid e1
        clear r x e1
        go_wp2_with fail
        refine (rgetRep_any h h0 b s _ F3.out).mono ?_
        rintro e w4 ⟨x2, s2, e2, rfl, r, x⟩
        rw [E1.out] at e2
        simp only [Prod.mk.injEq] at e2
        obtain ⟨rfl, rfl⟩ := e2
        have HBO : Hid (BothC w4.drew g g0 h h0 b s1) := Lib.hid ⟨(R3.out.ext x hbo.out.2.2.1 hbo.out.2.2.2.2.symm).drewN 1, Rf.drewN r 1, hbo.out.2.2⟩
        have X4 : Hid (Ext None_ w w4) := Lib.hid (X3.out.trans x (fun k hk (e : k = h) => by omega))
        clear r x R3 F3 E1
        have qe := fun W => sameRep x1 W
        go_wp2_with fail
        refine wp_region_mem [sv (.bool true), sv (.bool false), sv (.bool false), sv (.pointer (some ⟨g, 0, none⟩)), sv (.int .i64 s1.pos), sv (.pointer (some ⟨h, 0, none⟩)), sv (.pointer (some ⟨h, 0, none⟩)), sv (.pointer (some ⟨h, 1, none⟩)), sv (.int .i64 s1.pos), sv (.bool false), sv (.bool false), sv (.bool false), sv (.pointer (some ⟨g, 0, none⟩)), sv (.pointer (some ⟨g, 0, none⟩)), sv (.pointer (some ⟨g, 0, none⟩)), sv (.agg #[.int .i64 s1.fa, .int .i64 s1.fe]), sv (.int .i64 s1.fe), sv (.pointer (some ⟨h, 0, none⟩)), sv (.pointer (some ⟨h, 0, none⟩)), sv (.pointer (some ⟨h, 3, none⟩)), sv (.int .i64 s1.fe), sv (.bool false), sv (.bool false), sv (.bool false), sv (.pointer (some ⟨g, 0, none⟩)), sv (.pointer (some ⟨g, 0, none⟩)), sv (.pointer (some ⟨g, 0, none⟩)), sv (.agg #[.int .i64 s1.fa, .int .i64 s1.fe]), sv (.int .i64 s1.fa), sv (.pointer (some ⟨h, 0, none⟩)), sv (.pointer (some ⟨h, 0, none⟩)), sv (.pointer (some ⟨h, 2, none⟩)), sv (.int .i64 s1.fa), sv (.bool false), sv (.bool false)] (by kernel_rfl) rfl rfl rfl rfl ⟨?_, ?_, ?_, ?_, ?_, ?_, ?_, ?_, ?_, ?_, ?_, ?_, ?_, ?_, ?_, ?_, ?_, ?_, ?_, ?_, ?_, ?_, ?_, ?_, ?_, ?_, ?_, ?_, ?_, ?_, ?_, ?_, ?_, ?_, ?_, trivial⟩ ?_
        · intro L a w1 hd hj K hK
          rw [if_pos (wanted_none rfl)]
          have f8 := hj.base 8 rfl rfl
          exact opMove hK rfl (ev f8) rfl
        · intro L a w1 hd hj K hK
          rw [if_pos (wanted_none rfl)]
          have f45 := hj.val 0 45 rfl rfl (by simp) rfl (hd ⟨0, .data⟩ (by simp) rfl)
          exact opNot hK rfl (ev f45) rfl
        · intro L a w1 hd hj K hK
          rw [if_pos (wanted_none rfl)]
          have f46 := hj.val 1 46 rfl rfl (by simp) rfl (hd ⟨1, .data⟩ (by simp) rfl)
          exact opMove hK rfl (ev f46) rfl
        · intro L a w1 hd hj K hK
          have fg := hj.val 2 47 rfl rfl (by simp) rfl (hd ⟨2, .guard⟩ (by simp) rfl)
          rw [wanted_some (c := false) rfl rfl rfl fg, if_pos (by rfl)]
          have f5 := hj.base 5 rfl rfl
          exact opMove hK rfl (ev f5) rfl
        · intro L a w1 hd hj K hK
          have fg := hj.val 2 47 rfl rfl (by simp) rfl (hd ⟨2, .guard⟩ (by simp) rfl)
          rw [wanted_some (c := false) rfl rfl rfl fg, if_pos (by rfl)]
          have f48 := hj.val 3 48 rfl rfl (by simp) rfl (hd ⟨3, .data⟩ (by simp) rfl)
          exact opCall hK Try.func37 (by kernel_rfl) rfl (args := #[.pointer (some ⟨g, 0, none⟩)]) (by simp [ev f48]) (call_of ((Next_any g g0 b s1 _ (HBO.out.1.ext0 hj.ext)).mono fun e w' ⟨h1, h2⟩ => ⟨h1, by subst h2; exact Ext.refl _ _⟩))
        · intro L a w1 hd hj K hK
          have fg := hj.val 2 47 rfl rfl (by simp) rfl (hd ⟨2, .guard⟩ (by simp) rfl)
          rw [wanted_some (c := false) rfl rfl rfl fg, if_pos (by rfl)]
          have f6 := hj.base 6 rfl rfl
          exact opMove hK rfl (ev f6) rfl
        · intro L a w1 hd hj K hK
          have fg := hj.val 2 47 rfl rfl (by simp) rfl (hd ⟨2, .guard⟩ (by simp) rfl)
          rw [wanted_some (c := false) rfl rfl rfl fg, if_pos (by rfl)]
          have f50 := hj.val 5 50 rfl rfl (by simp) rfl (hd ⟨5, .data⟩ (by simp) rfl)
          exact opNil hK rfl (ev f50) rfl
        · intro L a w1 hd hj K hK
          have fg := hj.val 2 47 rfl rfl (by simp) rfl (hd ⟨2, .guard⟩ (by simp) rfl)
          rw [wanted_some (c := false) rfl rfl rfl fg, if_pos (by rfl)]
          have f51 := hj.val 6 51 rfl rfl (by simp) rfl (hd ⟨6, .data⟩ (by simp) rfl)
          exact opField hK rfl (ev f51) (fun W => fldR 1 1 (by decide) h W) rfl
        · intro L a w1 hd hj K hK
          have fg := hj.val 2 47 rfl rfl (by simp) rfl (hd ⟨2, .guard⟩ (by simp) rfl)
          rw [wanted_some (c := false) rfl rfl rfl fg, if_pos (by rfl)]
          have f52 := hj.val 7 52 rfl rfl (by simp) rfl (hd ⟨7, .data⟩ (by simp) rfl)
          exact opLoad hK rfl (ev f52) Try.underlying3 rfl (rf_cell (HBO.out.2.1.ext0 hj.ext)).1 rfl
        · intro L a w1 hd hj K hK
          have fg := hj.val 2 47 rfl rfl (by simp) rfl (hd ⟨2, .guard⟩ (by simp) rfl)
          rw [wanted_some (c := false) rfl rfl rfl fg, if_pos (by rfl)]
          have f49 := hj.val 4 49 rfl rfl (by simp) rfl (hd ⟨4, .data⟩ (by simp) rfl)
          have f53 := hj.val 8 53 rfl rfl (by simp) rfl (hd ⟨8, .data⟩ (by simp) rfl)
          exact opBin hK rfl (ev f49) (ev f53) (guardInt _ _ _ _ _ _ _ _ _) (binNeInt _ _ _ _ _) (congrArg Value.bool (by simp))
        · intro L a w1 hd hj K hK
          rw [if_pos (wanted_none rfl)]
          have f47 := hj.val 2 47 rfl rfl (by simp) rfl (hd ⟨2, .data⟩ (by simp) rfl)
          have f54 := hj.val 9 54 rfl rfl (by simp) rfl (hd ⟨9, .data⟩ (by simp) rfl)
          exact opPick hK rfl (b := false) (ev f47) ((if_neg (by decide)).trans (ev f54)) rfl
        · intro L a w1 hd hj K hK
          rw [if_pos (wanted_none rfl)]
          have f55 := hj.val 10 55 rfl rfl (by simp) rfl (hd ⟨10, .data⟩ (by simp) rfl)
          exact opMove hK rfl (ev f55) rfl
        · intro L a w1 hd hj K hK
          have fg := hj.val 11 56 rfl rfl (by simp) rfl (hd ⟨11, .guard⟩ (by simp) rfl)
          rw [wanted_some (c := false) rfl rfl rfl fg, if_pos (by rfl)]
          have f5 := hj.base 5 rfl rfl
          exact opMove hK rfl (ev f5) rfl
        · intro L a w1 hd hj K hK
          have fg := hj.val 11 56 rfl rfl (by simp) rfl (hd ⟨11, .guard⟩ (by simp) rfl)
          rw [wanted_some (c := false) rfl rfl rfl fg, if_pos (by rfl)]
          have f57 := hj.val 12 57 rfl rfl (by simp) rfl (hd ⟨12, .data⟩ (by simp) rfl)
          exact opNil hK rfl (ev f57) rfl
        · intro L a w1 hd hj K hK
          have fg := hj.val 11 56 rfl rfl (by simp) rfl (hd ⟨11, .guard⟩ (by simp) rfl)
          rw [wanted_some (c := false) rfl rfl rfl fg, if_pos (by rfl)]
          have f58 := hj.val 13 58 rfl rfl (by simp) rfl (hd ⟨13, .data⟩ (by simp) rfl)
          exact opField hK rfl (ev f58) (fun W => fldF g W) rfl
        · intro L a w1 hd hj K hK
          have fg := hj.val 11 56 rfl rfl (by simp) rfl (hd ⟨11, .guard⟩ (by simp) rfl)
          rw [wanted_some (c := false) rfl rfl rfl fg, if_pos (by rfl)]
          have f59 := hj.val 14 59 rfl rfl (by simp) rfl (hd ⟨14, .data⟩ (by simp) rfl)
          exact opLoadMid hK rfl g 0 (ev f59) [.int .i64 s1.fa, .int .i64 s1.fe] (fault_range (HBO.out.1.ext0 hj.ext)) Try.underlying53 rfl faultSize rfl
        · intro L a w1 hd hj K hK
          have fg := hj.val 11 56 rfl rfl (by simp) rfl (hd ⟨11, .guard⟩ (by simp) rfl)
          rw [wanted_some (c := false) rfl rfl rfl fg, if_pos (by rfl)]
          have f60 := hj.val 15 60 rfl rfl (by simp) rfl (hd ⟨15, .data⟩ (by simp) rfl)
          exact opCall hK Try.func40 (by kernel_rfl) rfl (args := #[.agg #[.int .i64 s1.fa, .int .i64 s1.fe]]) (by simp [ev f60]) (call_of (err_any _ _ _))
        · intro L a w1 hd hj K hK
          have fg := hj.val 11 56 rfl rfl (by simp) rfl (hd ⟨11, .guard⟩ (by simp) rfl)
          rw [wanted_some (c := false) rfl rfl rfl fg, if_pos (by rfl)]
          have f6 := hj.base 6 rfl rfl
          exact opMove hK rfl (ev f6) rfl
        · intro L a w1 hd hj K hK
          have fg := hj.val 11 56 rfl rfl (by simp) rfl (hd ⟨11, .guard⟩ (by simp) rfl)
          rw [wanted_some (c := false) rfl rfl rfl fg, if_pos (by rfl)]
          have f62 := hj.val 17 62 rfl rfl (by simp) rfl (hd ⟨17, .data⟩ (by simp) rfl)
          exact opNil hK rfl (ev f62) rfl
        · intro L a w1 hd hj K hK
          have fg := hj.val 11 56 rfl rfl (by simp) rfl (hd ⟨11, .guard⟩ (by simp) rfl)
          rw [wanted_some (c := false) rfl rfl rfl fg, if_pos (by rfl)]
          have f63 := hj.val 18 63 rfl rfl (by simp) rfl (hd ⟨18, .data⟩ (by simp) rfl)
          exact opField hK rfl (ev f63) (fun W => fldR 3 3 (by decide) h W) rfl
        · intro L a w1 hd hj K hK
          have fg := hj.val 11 56 rfl rfl (by simp) rfl (hd ⟨11, .guard⟩ (by simp) rfl)
          rw [wanted_some (c := false) rfl rfl rfl fg, if_pos (by rfl)]
          have f64 := hj.val 19 64 rfl rfl (by simp) rfl (hd ⟨19, .data⟩ (by simp) rfl)
          exact opLoad hK rfl (ev f64) Try.underlying3 rfl (rf_cell (HBO.out.2.1.ext0 hj.ext)).2.2 rfl
        · intro L a w1 hd hj K hK
          have fg := hj.val 11 56 rfl rfl (by simp) rfl (hd ⟨11, .guard⟩ (by simp) rfl)
          rw [wanted_some (c := false) rfl rfl rfl fg, if_pos (by rfl)]
          have f61 := hj.val 16 61 rfl rfl (by simp) rfl (hd ⟨16, .data⟩ (by simp) rfl)
          have f65 := hj.val 20 65 rfl rfl (by simp) rfl (hd ⟨20, .data⟩ (by simp) rfl)
          exact opBin hK rfl (ev f61) (ev f65) (guardInt _ _ _ _ _ _ _ _ _) (binNeInt _ _ _ _ _) (congrArg Value.bool (by simp))
        · intro L a w1 hd hj K hK
          rw [if_pos (wanted_none rfl)]
          have f56 := hj.val 11 56 rfl rfl (by simp) rfl (hd ⟨11, .data⟩ (by simp) rfl)
          have f66 := hj.val 21 66 rfl rfl (by simp) rfl (hd ⟨21, .data⟩ (by simp) rfl)
          exact opPick hK rfl (b := false) (ev f56) ((if_neg (by decide)).trans (ev f66)) rfl
        · intro L a w1 hd hj K hK
          rw [if_pos (wanted_none rfl)]
          have f67 := hj.val 22 67 rfl rfl (by simp) rfl (hd ⟨22, .data⟩ (by simp) rfl)
          exact opMove hK rfl (ev f67) rfl
        · intro L a w1 hd hj K hK
          have fg := hj.val 23 68 rfl rfl (by simp) rfl (hd ⟨23, .guard⟩ (by simp) rfl)
          rw [wanted_some (c := false) rfl rfl rfl fg, if_pos (by rfl)]
          have f5 := hj.base 5 rfl rfl
          exact opMove hK rfl (ev f5) rfl
        · intro L a w1 hd hj K hK
          have fg := hj.val 23 68 rfl rfl (by simp) rfl (hd ⟨23, .guard⟩ (by simp) rfl)
          rw [wanted_some (c := false) rfl rfl rfl fg, if_pos (by rfl)]
          have f69 := hj.val 24 69 rfl rfl (by simp) rfl (hd ⟨24, .data⟩ (by simp) rfl)
          exact opNil hK rfl (ev f69) rfl
        · intro L a w1 hd hj K hK
          have fg := hj.val 23 68 rfl rfl (by simp) rfl (hd ⟨23, .guard⟩ (by simp) rfl)
          rw [wanted_some (c := false) rfl rfl rfl fg, if_pos (by rfl)]
          have f70 := hj.val 25 70 rfl rfl (by simp) rfl (hd ⟨25, .data⟩ (by simp) rfl)
          exact opField hK rfl (ev f70) (fun W => fldF g W) rfl
        · intro L a w1 hd hj K hK
          have fg := hj.val 23 68 rfl rfl (by simp) rfl (hd ⟨23, .guard⟩ (by simp) rfl)
          rw [wanted_some (c := false) rfl rfl rfl fg, if_pos (by rfl)]
          have f71 := hj.val 26 71 rfl rfl (by simp) rfl (hd ⟨26, .data⟩ (by simp) rfl)
          exact opLoadMid hK rfl g 0 (ev f71) [.int .i64 s1.fa, .int .i64 s1.fe] (fault_range (HBO.out.1.ext0 hj.ext)) Try.underlying53 rfl faultSize rfl
        · intro L a w1 hd hj K hK
          have fg := hj.val 23 68 rfl rfl (by simp) rfl (hd ⟨23, .guard⟩ (by simp) rfl)
          rw [wanted_some (c := false) rfl rfl rfl fg, if_pos (by rfl)]
          have f72 := hj.val 27 72 rfl rfl (by simp) rfl (hd ⟨27, .data⟩ (by simp) rfl)
          exact opCall hK Try.func38 (by kernel_rfl) rfl (args := #[.agg #[.int .i64 s1.fa, .int .i64 s1.fe]]) (by simp [ev f72]) (call_of (where_any _ _ _))
        · intro L a w1 hd hj K hK
          have fg := hj.val 23 68 rfl rfl (by simp) rfl (hd ⟨23, .guard⟩ (by simp) rfl)
          rw [wanted_some (c := false) rfl rfl rfl fg, if_pos (by rfl)]
          have f6 := hj.base 6 rfl rfl
          exact opMove hK rfl (ev f6) rfl
        · intro L a w1 hd hj K hK
          have fg := hj.val 23 68 rfl rfl (by simp) rfl (hd ⟨23, .guard⟩ (by simp) rfl)
          rw [wanted_some (c := false) rfl rfl rfl fg, if_pos (by rfl)]
          have f74 := hj.val 29 74 rfl rfl (by simp) rfl (hd ⟨29, .data⟩ (by simp) rfl)
          exact opNil hK rfl (ev f74) rfl
        · intro L a w1 hd hj K hK
          have fg := hj.val 23 68 rfl rfl (by simp) rfl (hd ⟨23, .guard⟩ (by simp) rfl)
          rw [wanted_some (c := false) rfl rfl rfl fg, if_pos (by rfl)]
          have f75 := hj.val 30 75 rfl rfl (by simp) rfl (hd ⟨30, .data⟩ (by simp) rfl)
          exact opField hK rfl (ev f75) (fun W => fldR 2 2 (by decide) h W) rfl
        · intro L a w1 hd hj K hK
          have fg := hj.val 23 68 rfl rfl (by simp) rfl (hd ⟨23, .guard⟩ (by simp) rfl)
          rw [wanted_some (c := false) rfl rfl rfl fg, if_pos (by rfl)]
          have f76 := hj.val 31 76 rfl rfl (by simp) rfl (hd ⟨31, .data⟩ (by simp) rfl)
          exact opLoad hK rfl (ev f76) Try.underlying3 rfl (rf_cell (HBO.out.2.1.ext0 hj.ext)).2.1 rfl
        · intro L a w1 hd hj K hK
          have fg := hj.val 23 68 rfl rfl (by simp) rfl (hd ⟨23, .guard⟩ (by simp) rfl)
          rw [wanted_some (c := false) rfl rfl rfl fg, if_pos (by rfl)]
          have f73 := hj.val 28 73 rfl rfl (by simp) rfl (hd ⟨28, .data⟩ (by simp) rfl)
          have f77 := hj.val 32 77 rfl rfl (by simp) rfl (hd ⟨32, .data⟩ (by simp) rfl)
          exact opBin hK rfl (ev f73) (ev f77) (guardInt _ _ _ _ _ _ _ _ _) (binNeInt _ _ _ _ _) (congrArg Value.bool (by simp))
        · intro L a w1 hd hj K hK
          rw [if_pos (wanted_none rfl)]
          have f68 := hj.val 23 68 rfl rfl (by simp) rfl (hd ⟨23, .data⟩ (by simp) rfl)
          have f78 := hj.val 33 78 rfl rfl (by simp) rfl (hd ⟨33, .data⟩ (by simp) rfl)
          exact opPick hK rfl (b := false) (ev f68) ((if_neg (by decide)).trans (ev f78)) rfl
        intro vs w5 hx5 hg5
        have v34 : vs 34 = .bool false := hg5 34 (by simp)
        have X5 : Hid (Ext None_ w w5) := Lib.hid (X4.out.drew.trans0 hx5)
        have HB5 : Hid (BothC w5 g g0 h h0 b s1) := Lib.hid ⟨HBO.out.1.ext0 hx5, HBO.out.2.1.ext0 hx5, HBO.out.2.2⟩
        clear hx5 hg5 qe hmod HBO X4 X3
        simp only [putAll, v34, Nat.reduceAdd, Nat.zero_add]
        simp only [Act.put, List.setIfInBounds_toArray, List.set_cons_succ, List.set_cons_zero]
        go_wp2_with fail
        exact ⟨⟨i + 1, s1, by go_num, by omega, HB5, X5⟩, by simp [intOf]; omega⟩
    · have hge : i = 3 := by omega
      subst hge
      go_wp2_with fail
      refine (HRUNS.out _).mono ?_
      rintro e w9 ⟨rfl, x⟩
      have X9 := Lib.hid (hx.out.trans0 x)
      clear x
      go_wp2_with fail
      go_ret
      exact ⟨rfl, X9.out⟩
end Go.Proofs.Ytmobdofkiddfhaa
