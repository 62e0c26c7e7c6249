/- Chapter 15's statements, walked: CommandPuts. Written by gen_l15c.py. -/
import Derived.Test.YtmobdofkiddfhaaCmdZ
set_option linter.unusedVariables false
set_option linter.unusedSimpArgs false
namespace Go.Proofs.Ytmobdofkiddfhaa
open Go.RowKit B
def sSl (L : List Int) : SG := ⟨fun u w => ∃ A c, u = .slice A L.length c ∧ Row w A (B8 L), fun _ _ _ ⟨A, c, h1, h2⟩ hx => ⟨A, c, h1, h2.ext0 hx⟩⟩
theorem sameT (A1 : Option Addr) (c1 : Nat) (l : List Int) (A2 : Option Addr) (c2 : Nat) (w : World) (h1 : Row w A1 (B8 l)) (h2 : Row w A2 (B8 l)) (hl : l.length ≤ 140737488355328) :
    Calls Try.prog 17 #[.slice A1 l.length c1, .slice A2 l.length c2] w fun e w' => e = .returned (.bool true) ∧ Ext None_ w w' :=
  (same_any A1 c1 l A2 c2 l w h1 h2 hl hl).mono fun e w' ⟨h3, h4⟩ => ⟨h3.trans (by simp), h4⟩
theorem sl_of {P : Program} {f : FuncId} {args : Array Value} {w : World} {ok : Nat → Prop} {L : List Int} (h : Calls P f args w fun e w' => ∃ v', e = .returned v' ∧ OwnB w' ok v' L ∧ Ext None_ w w') : Calls P f args w fun e w' => ∃ u, e = .returned u ∧ (sSl L).p u w' ∧ Ext None_ w w' :=
  h.mono fun e w' ⟨v, h1, h2, h3⟩ => by obtain ⟨A', c', rfl, _, _, r⟩ := Own.slice h2; exact ⟨_, h1, ⟨A', c', rfl, r⟩, h3⟩
theorem fldDrv (g : Nat) (w : World) : (do pure (Next.value (← Instr.fieldAt 68 (.pointer (some ⟨g, 0, none⟩)) 2)) : Sem Next).run Try.prog w = .ok (.value (.pointer (some ⟨g, 11, none⟩))) w := by kernel_rfl
theorem drvSize : (Try.prog.info? 66).map (·.size) = some 6 := by kernel_rfl
theorem ordSize : (Try.prog.info? 64).map (·.size) = some 10 := by kernel_rfl
theorem repSize : (Try.prog.info? 77).map (·.size) = some 4 := by kernel_rfl
set_option maxRecDepth 100000 in
set_option maxHeartbeats 8000000 in
theorem commandPuts_row (b : List Int) {A : Option Addr} {c : Nat} {w : World} (hrow : Row w A (B8 b)) (hc : b.length ≤ c) (hm : c ≤ 140737488351232) (hby : Byt b) (o : Ord) (ho : o.ok) (x : Cmd) (hx : x.ok) (p : Rep) (hp : p.ok) :
    Calls Try.prog 11 #[.slice A b.length c, .agg #[.int .i64 o.id, .int .i64 o.size, .int .i64 o.pick.p, .int .i64 o.pick.f, .int .i64 o.pick.t, .int .i64 o.pick.s, .int .i64 o.drop.p, .int .i64 o.drop.f, .int .i64 o.drop.t, .int .i64 o.drop.s], .agg #[.int .i64 x.kind, .int .i64 x.o.id, .int .i64 x.o.size, .int .i64 x.o.pick.p, .int .i64 x.o.pick.f, .int .i64 x.o.pick.t, .int .i64 x.o.pick.s, .int .i64 x.o.drop.p, .int .i64 x.o.drop.f, .int .i64 x.o.drop.t, .int .i64 x.o.drop.s, .int .i64 x.d.id, .int .i64 x.d.room, .int .i64 x.d.home, .int .i64 x.d.f, .int .i64 x.d.t, .bool x.d.ret, .int .i64 x.id, .int .i64 x.count], .agg #[.int .i64 p.why, .int .i64 p.state, .int .i64 p.drv, .int .i64 p.time]] w fun e w' => e = .returned (.bool true) ∧ Ext None_ w w' := by
  have HROW := Lib.hid hrow
  have HRUNS := Lib.hid runs15_any
  have HO := Lib.hid ho
  have HX := Lib.hid hx
  have HP := Lib.hid hp
  have hlen : b.length + 200 ≤ 140737488355328 := by omega
  clear hrow ho hx hp hby hm
  have BO := Lib.hid (((Blk.new w #[.int .i64 o.id, .int .i64 o.size, .int .i64 o.pick.p, .int .i64 o.pick.f, .int .i64 o.pick.t, .int .i64 o.pick.s, .int .i64 o.drop.p, .int .i64 o.drop.f, .int .i64 o.drop.t, .int .i64 o.drop.s] 64).alloc (.cells #[.int .i64 x.kind, .int .i64 x.o.id, .int .i64 x.o.size, .int .i64 x.o.pick.p, .int .i64 x.o.pick.f, .int .i64 x.o.pick.t, .int .i64 x.o.pick.s, .int .i64 x.o.drop.p, .int .i64 x.o.drop.f, .int .i64 x.o.drop.t, .int .i64 x.o.drop.s, .int .i64 x.d.id, .int .i64 x.d.room, .int .i64 x.d.home, .int .i64 x.d.f, .int .i64 x.d.t, .bool x.d.ret, .int .i64 x.id, .int .i64 x.count] 68)).alloc (.cells #[.int .i64 p.why, .int .i64 p.state, .int .i64 p.drv, .int .i64 p.time] 77))
  have BX := Lib.hid ((Blk.new1 w (.cells #[.int .i64 o.id, .int .i64 o.size, .int .i64 o.pick.p, .int .i64 o.pick.f, .int .i64 o.pick.t, .int .i64 o.pick.s, .int .i64 o.drop.p, .int .i64 o.drop.f, .int .i64 o.drop.t, .int .i64 o.drop.s] 64) #[.int .i64 x.kind, .int .i64 x.o.id, .int .i64 x.o.size, .int .i64 x.o.pick.p, .int .i64 x.o.pick.f, .int .i64 x.o.pick.t, .int .i64 x.o.pick.s, .int .i64 x.o.drop.p, .int .i64 x.o.drop.f, .int .i64 x.o.drop.t, .int .i64 x.o.drop.s, .int .i64 x.d.id, .int .i64 x.d.room, .int .i64 x.d.home, .int .i64 x.d.f, .int .i64 x.d.t, .bool x.d.ret, .int .i64 x.id, .int .i64 x.count] 68).alloc (.cells #[.int .i64 p.why, .int .i64 p.state, .int .i64 p.drv, .int .i64 p.time] 77))
  have BP : Hid (Blk (((w.alloc (.cells #[.int .i64 o.id, .int .i64 o.size, .int .i64 o.pick.p, .int .i64 o.pick.f, .int .i64 o.pick.t, .int .i64 o.pick.s, .int .i64 o.drop.p, .int .i64 o.drop.f, .int .i64 o.drop.t, .int .i64 o.drop.s] 64)).alloc (.cells #[.int .i64 x.kind, .int .i64 x.o.id, .int .i64 x.o.size, .int .i64 x.o.pick.p, .int .i64 x.o.pick.f, .int .i64 x.o.pick.t, .int .i64 x.o.pick.s, .int .i64 x.o.drop.p, .int .i64 x.o.drop.f, .int .i64 x.o.drop.t, .int .i64 x.o.drop.s, .int .i64 x.d.id, .int .i64 x.d.room, .int .i64 x.d.home, .int .i64 x.d.f, .int .i64 x.d.t, .bool x.d.ret, .int .i64 x.id, .int .i64 x.count] 68)).alloc (.cells #[.int .i64 p.why, .int .i64 p.state, .int .i64 p.drv, .int .i64 p.time] 77)) (w.heap.size + 2) #[.int .i64 p.why, .int .i64 p.state, .int .i64 p.drv, .int .i64 p.time] 77) := Lib.hid (by have := Blk.new1 (w.alloc (.cells #[.int .i64 o.id, .int .i64 o.size, .int .i64 o.pick.p, .int .i64 o.pick.f, .int .i64 o.pick.t, .int .i64 o.pick.s, .int .i64 o.drop.p, .int .i64 o.drop.f, .int .i64 o.drop.t, .int .i64 o.drop.s] 64)) (.cells #[.int .i64 x.kind, .int .i64 x.o.id, .int .i64 x.o.size, .int .i64 x.o.pick.p, .int .i64 x.o.pick.f, .int .i64 x.o.pick.t, .int .i64 x.o.pick.s, .int .i64 x.o.drop.p, .int .i64 x.o.drop.f, .int .i64 x.o.drop.t, .int .i64 x.o.drop.s, .int .i64 x.d.id, .int .i64 x.d.room, .int .i64 x.d.home, .int .i64 x.d.f, .int .i64 x.d.t, .bool x.d.ret, .int .i64 x.id, .int .i64 x.count] 68) #[.int .i64 p.why, .int .i64 p.state, .int .i64 p.drv, .int .i64 p.time] 77; simpa using this)
  have X0 : Hid (Ext None_ w (((w.alloc (.cells #[.int .i64 o.id, .int .i64 o.size, .int .i64 o.pick.p, .int .i64 o.pick.f, .int .i64 o.pick.t, .int .i64 o.pick.s, .int .i64 o.drop.p, .int .i64 o.drop.f, .int .i64 o.drop.t, .int .i64 o.drop.s] 64)).alloc (.cells #[.int .i64 x.kind, .int .i64 x.o.id, .int .i64 x.o.size, .int .i64 x.o.pick.p, .int .i64 x.o.pick.f, .int .i64 x.o.pick.t, .int .i64 x.o.pick.s, .int .i64 x.o.drop.p, .int .i64 x.o.drop.f, .int .i64 x.o.drop.t, .int .i64 x.o.drop.s, .int .i64 x.d.id, .int .i64 x.d.room, .int .i64 x.d.home, .int .i64 x.d.f, .int .i64 x.d.t, .bool x.d.ret, .int .i64 x.id, .int .i64 x.count] 68)).alloc (.cells #[.int .i64 p.why, .int .i64 p.state, .int .i64 p.drv, .int .i64 p.time] 77))) := Lib.hid (((x0 _ _).alloc _).alloc _)
  have hsz : (((w.alloc (.cells #[.int .i64 o.id, .int .i64 o.size, .int .i64 o.pick.p, .int .i64 o.pick.f, .int .i64 o.pick.t, .int .i64 o.pick.s, .int .i64 o.drop.p, .int .i64 o.drop.f, .int .i64 o.drop.t, .int .i64 o.drop.s] 64)).alloc (.cells #[.int .i64 x.kind, .int .i64 x.o.id, .int .i64 x.o.size, .int .i64 x.o.pick.p, .int .i64 x.o.pick.f, .int .i64 x.o.pick.t, .int .i64 x.o.pick.s, .int .i64 x.o.drop.p, .int .i64 x.o.drop.f, .int .i64 x.o.drop.t, .int .i64 x.o.drop.s, .int .i64 x.d.id, .int .i64 x.d.room, .int .i64 x.d.home, .int .i64 x.d.f, .int .i64 x.d.t, .bool x.d.ret, .int .i64 x.id, .int .i64 x.count] 68)).alloc (.cells #[.int .i64 p.why, .int .i64 p.state, .int .i64 p.drv, .int .i64 p.time] 77)).heap.size = w.heap.size + 3 := by simp
  have HSZ := Lib.hid hsz
  clear hsz
  obtain ⟨A', hA', hcut⟩ := cut_h (P := Try.prog) 23 5 1 Try.underlying23 infoU8 (some ⟨w.heap.size + 3, 0, none⟩) (b.length + 80) (b.length + 80) (b.length : Int) (by omega) (by omega)
  have HA := Lib.hid hA'
  clear hA'
  go_enter Try.func11, Try.ntmps11
  go_wp2_with fail
  refine (roomy_any A c b 61 _ (HROW.out.ext0 X0.out) (by omega)).mono ?_
  rw [HSZ.out]
  rintro e w1 ⟨rfl, hblk, x1⟩
  have X1 := Lib.hid (X0.out.trans0 x1)
  have BO1 := Lib.hid ((BO.out.ext0 x1).drew)
  have BX1 := Lib.hid ((BX.out.ext0 x1).drew)
  have BP1 := Lib.hid ((BP.out.ext0 x1).drew)
  have HBK := Lib.hid hblk
  have HT : Hid (Row w1 A' (B8 b)) := Lib.hid (by
    have := cut_row (lo := 0) (hi := b.length) (size := 1) hblk.row HA.out (by simp [B8_length, mark80_length])
    simpa [B8, mark80] using this)
  have HR1 : Hid (Row w1 A (B8 b)) := Lib.hid (HROW.out.ext0 X1.out)
  clear hblk x1 BO BX BP
  go_wp2_with fail
  refine wp_region_mem [sv (.slice A' b.length (b.length + 80)), sv (.agg #[.int .i64 o.id, .int .i64 o.size, .int .i64 o.pick.p, .int .i64 o.pick.f, .int .i64 o.pick.t, .int .i64 o.pick.s, .int .i64 o.drop.p, .int .i64 o.drop.f, .int .i64 o.drop.t, .int .i64 o.drop.s]), sSl (b ++ encOrd o), sv (.slice A b.length c), sv (.agg #[.int .i64 o.id, .int .i64 o.size, .int .i64 o.pick.p, .int .i64 o.pick.f, .int .i64 o.pick.t, .int .i64 o.pick.s, .int .i64 o.drop.p, .int .i64 o.drop.f, .int .i64 o.drop.t, .int .i64 o.drop.s]), sSl (b ++ encOrd o), sv (.bool true), sv (.bool true), sv (.slice A' b.length (b.length + 80)), sv (.pointer (some ⟨w.heap.size + 1, 11, none⟩)), sv (.agg #[.int .i64 x.d.id, .int .i64 x.d.room, .int .i64 x.d.home, .int .i64 x.d.f, .int .i64 x.d.t, .bool x.d.ret]), sSl (b ++ encDrv x.d), sv (.slice A b.length c), sv (.pointer (some ⟨w.heap.size + 1, 11, none⟩)), sv (.agg #[.int .i64 x.d.id, .int .i64 x.d.room, .int .i64 x.d.home, .int .i64 x.d.f, .int .i64 x.d.t, .bool x.d.ret]), sSl (b ++ encDrv x.d), sv (.bool true), sv (.bool true), sv (.bool true), sv (.slice A' b.length (b.length + 80)), sv (.agg #[.int .i64 p.why, .int .i64 p.state, .int .i64 p.drv, .int .i64 p.time]), sSl (b ++ encRep p), sv (.slice A b.length c), sv (.agg #[.int .i64 p.why, .int .i64 p.state, .int .i64 p.drv, .int .i64 p.time]), sSl (b ++ encRep p), sv (.bool true), sv (.bool true), sv (.bool true)] (by kernel_rfl) rfl rfl rfl rfl ⟨?_, ?_, ?_, ?_, ?_, ?_, ?_, ?_, ?_, ?_, ?_, ?_, ?_, ?_, ?_, ?_, ?_, ?_, ?_, ?_, ?_, ?_, ?_, ?_, ?_, ?_, ?_, ?_, trivial⟩ ?_
  · intro L a w1 hd hj K hK
    rw [if_pos (wanted_none rfl)]
    have f10 := hj.base 10 rfl rfl
    exact opMove hK rfl (ev f10) rfl
  · intro L a w1 hd hj K hK
    rw [if_pos (wanted_none rfl)]
    have f5 := hj.base 5 rfl rfl
    exact wp_load_row _ _ rfl _ (ev f5) _ _ (0, 0) _ (BO1.out.ext0 hj.ext) Try.underlying64 rfl ordSize (hK _ _ rfl (Ext.refl _ _))
  · intro L a w1 hd hj K hK
    rw [if_pos (wanted_none rfl)]
    have f18 := hj.val 0 18 rfl rfl (by simp) rfl (hd ⟨0, .data⟩ (by simp) rfl)
    have f19 := hj.val 1 19 rfl rfl (by simp) rfl (hd ⟨1, .data⟩ (by simp) rfl)
    exact opCall hK Try.func47 (by kernel_rfl) rfl (args := #[.slice A' b.length (b.length + 80), .agg #[.int .i64 o.id, .int .i64 o.size, .int .i64 o.pick.p, .int .i64 o.pick.f, .int .i64 o.pick.t, .int .i64 o.pick.s, .int .i64 o.drop.p, .int .i64 o.drop.f, .int .i64 o.drop.t, .int .i64 o.drop.s]]) (by simp [ev f18, ev f19]) (sl_of (putOrd_any A' _ b o _ HO.out (HT.out.ext0 ((Ext.refl _ _).drew.trans0 hj.ext)) (by omega)))
  · intro L a w1 hd hj K hK
    rw [if_pos (wanted_none rfl)]
    have f0 := hj.base 0 rfl rfl
    exact opMove hK rfl (ev f0) rfl
  · intro L a w1 hd hj K hK
    rw [if_pos (wanted_none rfl)]
    have f5 := hj.base 5 rfl rfl
    exact wp_load_row _ _ rfl _ (ev f5) _ _ (0, 0) _ (BO1.out.ext0 hj.ext) Try.underlying64 rfl ordSize (hK _ _ rfl (Ext.refl _ _))
  · intro L a w1 hd hj K hK
    rw [if_pos (wanted_none rfl)]
    have f21 := hj.val 3 21 rfl rfl (by simp) rfl (hd ⟨3, .data⟩ (by simp) rfl)
    have f22 := hj.val 4 22 rfl rfl (by simp) rfl (hd ⟨4, .data⟩ (by simp) rfl)
    exact opCall hK Try.func48 (by kernel_rfl) rfl (args := #[.slice A b.length c, .agg #[.int .i64 o.id, .int .i64 o.size, .int .i64 o.pick.p, .int .i64 o.pick.f, .int .i64 o.pick.t, .int .i64 o.pick.s, .int .i64 o.drop.p, .int .i64 o.drop.f, .int .i64 o.drop.t, .int .i64 o.drop.s]]) (by simp [ev f21, ev f22]) (sl_of (rputOrd_any A _ b o _ HO.out (HR1.out.ext0 ((Ext.refl _ _).drew.trans0 hj.ext)) (by omega)))
  · intro L a w1 hd hj K hK
    rw [if_pos (wanted_none rfl)]
    obtain ⟨u20, f20, g20⟩ := hj.at_ 2 20 rfl rfl (by simp) (hd ⟨2, .data⟩ (by simp) rfl)
    obtain ⟨u23, f23, g23⟩ := hj.at_ 5 23 rfl rfl (by simp) (hd ⟨5, .data⟩ (by simp) rfl)
    obtain ⟨A1, c1, rfl, R1⟩ := g20
    obtain ⟨A2, c2, rfl, R2⟩ := g23
    exact opCall hK Try.func17 (by kernel_rfl) rfl (args := #[.slice A1 (b ++ encOrd o).length c1, .slice A2 (b ++ encOrd o).length c2]) (by simp only [List.map_toArray, List.map_cons, List.map_nil, ev f20, ev f23]) (call_of (sameT A1 c1 _ A2 c2 _ R1 R2 (by have := encOrd_len o; rw [List.length_append]; omega)))
  · intro L a w1 hd hj K hK
    rw [if_pos (wanted_none rfl)]
    have f24 := hj.val 6 24 rfl rfl (by simp) rfl (hd ⟨6, .data⟩ (by simp) rfl)
    exact opMove hK rfl (ev f24) rfl
  · intro L a w1 hd hj K hK
    have fg := hj.val 7 25 rfl rfl (by simp) rfl (hd ⟨7, .guard⟩ (by simp) rfl)
    rw [wanted_some (c := true) rfl rfl rfl fg, if_pos (by rfl)]
    have f10 := hj.base 10 rfl rfl
    exact opMove hK rfl (ev f10) rfl
  · intro L a w1 hd hj K hK
    have fg := hj.val 7 25 rfl rfl (by simp) rfl (hd ⟨7, .guard⟩ (by simp) rfl)
    rw [wanted_some (c := true) rfl rfl rfl fg, if_pos (by rfl)]
    have f6 := hj.base 6 rfl rfl
    exact opRun hK (v := .pointer (some ⟨w.heap.size + 1, 11, none⟩)) (w' := w1) (by unfold execOp; simp only [ev f6]; exact fldDrv _ _) rfl (Ext.refl _ _)
  · intro L a w1 hd hj K hK
    have fg := hj.val 7 25 rfl rfl (by simp) rfl (hd ⟨7, .guard⟩ (by simp) rfl)
    rw [wanted_some (c := true) rfl rfl rfl fg, if_pos (by rfl)]
    have f27 := hj.val 9 27 rfl rfl (by simp) rfl (hd ⟨9, .data⟩ (by simp) rfl)
    exact wp_load_mid _ _ rfl (w.heap.size + 1) 11 (ev f27) [.int .i64 x.d.id, .int .i64 x.d.room, .int .i64 x.d.home, .int .i64 x.d.f, .int .i64 x.d.t, .bool x.d.ret] _ ((BX1.out.ext0 hj.ext).range 11 _ rfl) Try.underlying66 rfl drvSize (hK _ _ rfl (Ext.refl _ _))
  · intro L a w1 hd hj K hK
    have fg := hj.val 7 25 rfl rfl (by simp) rfl (hd ⟨7, .guard⟩ (by simp) rfl)
    rw [wanted_some (c := true) rfl rfl rfl fg, if_pos (by rfl)]
    have f26 := hj.val 8 26 rfl rfl (by simp) rfl (hd ⟨8, .data⟩ (by simp) rfl)
    have f28 := hj.val 10 28 rfl rfl (by simp) rfl (hd ⟨10, .data⟩ (by simp) rfl)
    exact opCall hK Try.func49 (by kernel_rfl) rfl (args := #[.slice A' b.length (b.length + 80), .agg #[.int .i64 x.d.id, .int .i64 x.d.room, .int .i64 x.d.home, .int .i64 x.d.f, .int .i64 x.d.t, .bool x.d.ret]]) (by simp [ev f26, ev f28]) (sl_of (putDrv_any A' _ b x.d _ HX.out.2.2.1 (HT.out.ext0 ((Ext.refl _ _).drew.trans0 hj.ext)) (by omega)))
  · intro L a w1 hd hj K hK
    have fg := hj.val 7 25 rfl rfl (by simp) rfl (hd ⟨7, .guard⟩ (by simp) rfl)
    rw [wanted_some (c := true) rfl rfl rfl fg, if_pos (by rfl)]
    have f0 := hj.base 0 rfl rfl
    exact opMove hK rfl (ev f0) rfl
  · intro L a w1 hd hj K hK
    have fg := hj.val 7 25 rfl rfl (by simp) rfl (hd ⟨7, .guard⟩ (by simp) rfl)
    rw [wanted_some (c := true) rfl rfl rfl fg, if_pos (by rfl)]
    have f6 := hj.base 6 rfl rfl
    exact opRun hK (v := .pointer (some ⟨w.heap.size + 1, 11, none⟩)) (w' := w1) (by unfold execOp; simp only [ev f6]; exact fldDrv _ _) rfl (Ext.refl _ _)
  · intro L a w1 hd hj K hK
    have fg := hj.val 7 25 rfl rfl (by simp) rfl (hd ⟨7, .guard⟩ (by simp) rfl)
    rw [wanted_some (c := true) rfl rfl rfl fg, if_pos (by rfl)]
    have f31 := hj.val 13 31 rfl rfl (by simp) rfl (hd ⟨13, .data⟩ (by simp) rfl)
    exact wp_load_mid _ _ rfl (w.heap.size + 1) 11 (ev f31) [.int .i64 x.d.id, .int .i64 x.d.room, .int .i64 x.d.home, .int .i64 x.d.f, .int .i64 x.d.t, .bool x.d.ret] _ ((BX1.out.ext0 hj.ext).range 11 _ rfl) Try.underlying66 rfl drvSize (hK _ _ rfl (Ext.refl _ _))
  · intro L a w1 hd hj K hK
    have fg := hj.val 7 25 rfl rfl (by simp) rfl (hd ⟨7, .guard⟩ (by simp) rfl)
    rw [wanted_some (c := true) rfl rfl rfl fg, if_pos (by rfl)]
    have f30 := hj.val 12 30 rfl rfl (by simp) rfl (hd ⟨12, .data⟩ (by simp) rfl)
    have f32 := hj.val 14 32 rfl rfl (by simp) rfl (hd ⟨14, .data⟩ (by simp) rfl)
    exact opCall hK Try.func50 (by kernel_rfl) rfl (args := #[.slice A b.length c, .agg #[.int .i64 x.d.id, .int .i64 x.d.room, .int .i64 x.d.home, .int .i64 x.d.f, .int .i64 x.d.t, .bool x.d.ret]]) (by simp [ev f30, ev f32]) (sl_of (rputDrv_any A _ b x.d _ HX.out.2.2.1 (HR1.out.ext0 ((Ext.refl _ _).drew.trans0 hj.ext)) (by omega)))
  · intro L a w1 hd hj K hK
    have fg := hj.val 7 25 rfl rfl (by simp) rfl (hd ⟨7, .guard⟩ (by simp) rfl)
    rw [wanted_some (c := true) rfl rfl rfl fg, if_pos (by rfl)]
    obtain ⟨u29, f29, g29⟩ := hj.at_ 11 29 rfl rfl (by simp) (hd ⟨11, .data⟩ (by simp) rfl)
    obtain ⟨u33, f33, g33⟩ := hj.at_ 15 33 rfl rfl (by simp) (hd ⟨15, .data⟩ (by simp) rfl)
    obtain ⟨A1, c1, rfl, R1⟩ := g29
    obtain ⟨A2, c2, rfl, R2⟩ := g33
    exact opCall hK Try.func17 (by kernel_rfl) rfl (args := #[.slice A1 (b ++ encDrv x.d).length c1, .slice A2 (b ++ encDrv x.d).length c2]) (by simp only [List.map_toArray, List.map_cons, List.map_nil, ev f29, ev f33]) (call_of (sameT A1 c1 _ A2 c2 _ R1 R2 (by have := encDrv_len x.d; rw [List.length_append]; omega)))
  · intro L a w1 hd hj K hK
    rw [if_pos (wanted_none rfl)]
    have f25 := hj.val 7 25 rfl rfl (by simp) rfl (hd ⟨7, .data⟩ (by simp) rfl)
    have f34 := hj.val 16 34 rfl rfl (by simp) rfl (hd ⟨16, .data⟩ (by simp) rfl)
    exact opPick hK rfl (b := true) (ev f25) ((if_pos rfl).trans (ev f34)) rfl
  · intro L a w1 hd hj K hK
    rw [if_pos (wanted_none rfl)]
    have f35 := hj.val 17 35 rfl rfl (by simp) rfl (hd ⟨17, .data⟩ (by simp) rfl)
    exact opMove hK rfl (ev f35) rfl
  · intro L a w1 hd hj K hK
    have fg := hj.val 18 36 rfl rfl (by simp) rfl (hd ⟨18, .guard⟩ (by simp) rfl)
    rw [wanted_some (c := true) rfl rfl rfl fg, if_pos (by rfl)]
    have f10 := hj.base 10 rfl rfl
    exact opMove hK rfl (ev f10) rfl
  · intro L a w1 hd hj K hK
    have fg := hj.val 18 36 rfl rfl (by simp) rfl (hd ⟨18, .guard⟩ (by simp) rfl)
    rw [wanted_some (c := true) rfl rfl rfl fg, if_pos (by rfl)]
    have f7 := hj.base 7 rfl rfl
    exact wp_load_row _ _ rfl _ (ev f7) _ _ (0, 0) _ (BP1.out.ext0 hj.ext) Try.underlying77 rfl repSize (hK _ _ rfl (Ext.refl _ _))
  · intro L a w1 hd hj K hK
    have fg := hj.val 18 36 rfl rfl (by simp) rfl (hd ⟨18, .guard⟩ (by simp) rfl)
    rw [wanted_some (c := true) rfl rfl rfl fg, if_pos (by rfl)]
    have f37 := hj.val 19 37 rfl rfl (by simp) rfl (hd ⟨19, .data⟩ (by simp) rfl)
    have f38 := hj.val 20 38 rfl rfl (by simp) rfl (hd ⟨20, .data⟩ (by simp) rfl)
    exact opCall hK Try.func44 (by kernel_rfl) rfl (args := #[.slice A' b.length (b.length + 80), .agg #[.int .i64 p.why, .int .i64 p.state, .int .i64 p.drv, .int .i64 p.time]]) (by simp [ev f37, ev f38]) (sl_of (putRep_any A' _ b p _ HP.out (HT.out.ext0 ((Ext.refl _ _).drew.trans0 hj.ext)) (by omega)))
  · intro L a w1 hd hj K hK
    have fg := hj.val 18 36 rfl rfl (by simp) rfl (hd ⟨18, .guard⟩ (by simp) rfl)
    rw [wanted_some (c := true) rfl rfl rfl fg, if_pos (by rfl)]
    have f0 := hj.base 0 rfl rfl
    exact opMove hK rfl (ev f0) rfl
  · intro L a w1 hd hj K hK
    have fg := hj.val 18 36 rfl rfl (by simp) rfl (hd ⟨18, .guard⟩ (by simp) rfl)
    rw [wanted_some (c := true) rfl rfl rfl fg, if_pos (by rfl)]
    have f7 := hj.base 7 rfl rfl
    exact wp_load_row _ _ rfl _ (ev f7) _ _ (0, 0) _ (BP1.out.ext0 hj.ext) Try.underlying77 rfl repSize (hK _ _ rfl (Ext.refl _ _))
  · intro L a w1 hd hj K hK
    have fg := hj.val 18 36 rfl rfl (by simp) rfl (hd ⟨18, .guard⟩ (by simp) rfl)
    rw [wanted_some (c := true) rfl rfl rfl fg, if_pos (by rfl)]
    have f40 := hj.val 22 40 rfl rfl (by simp) rfl (hd ⟨22, .data⟩ (by simp) rfl)
    have f41 := hj.val 23 41 rfl rfl (by simp) rfl (hd ⟨23, .data⟩ (by simp) rfl)
    exact opCall hK Try.func51 (by kernel_rfl) rfl (args := #[.slice A b.length c, .agg #[.int .i64 p.why, .int .i64 p.state, .int .i64 p.drv, .int .i64 p.time]]) (by simp [ev f40, ev f41]) (sl_of (rputRep_any A _ b p _ HP.out (HR1.out.ext0 ((Ext.refl _ _).drew.trans0 hj.ext)) (by omega)))
  · intro L a w1 hd hj K hK
    have fg := hj.val 18 36 rfl rfl (by simp) rfl (hd ⟨18, .guard⟩ (by simp) rfl)
    rw [wanted_some (c := true) rfl rfl rfl fg, if_pos (by rfl)]
    obtain ⟨u39, f39, g39⟩ := hj.at_ 21 39 rfl rfl (by simp) (hd ⟨21, .data⟩ (by simp) rfl)
    obtain ⟨u42, f42, g42⟩ := hj.at_ 24 42 rfl rfl (by simp) (hd ⟨24, .data⟩ (by simp) rfl)
    obtain ⟨A1, c1, rfl, R1⟩ := g39
    obtain ⟨A2, c2, rfl, R2⟩ := g42
    exact opCall hK Try.func17 (by kernel_rfl) rfl (args := #[.slice A1 (b ++ encRep p).length c1, .slice A2 (b ++ encRep p).length c2]) (by simp only [List.map_toArray, List.map_cons, List.map_nil, ev f39, ev f42]) (call_of (sameT A1 c1 _ A2 c2 _ R1 R2 (by have := encRep_len p; rw [List.length_append]; omega)))
  · intro L a w1 hd hj K hK
    rw [if_pos (wanted_none rfl)]
    have f36 := hj.val 18 36 rfl rfl (by simp) rfl (hd ⟨18, .data⟩ (by simp) rfl)
    have f43 := hj.val 25 43 rfl rfl (by simp) rfl (hd ⟨25, .data⟩ (by simp) rfl)
    exact opPick hK rfl (b := true) (ev f36) ((if_pos rfl).trans (ev f43)) rfl
  · intro L a w1 hd hj K hK
    rw [if_pos (wanted_none rfl)]
    have f44 := hj.val 26 44 rfl rfl (by simp) rfl (hd ⟨26, .data⟩ (by simp) rfl)
    exact opAssign hK rfl (ev f44) rfl
  intro vs w2 hx hg
  have v27 : vs 27 = .bool true := hg 27 (by simp)
  have X2 : Hid (Ext None_ w w2) := Lib.hid (X1.out.drew.trans0 hx)
  have HF : Hid (Row w2 (some ⟨w.heap.size + 3, 0, none⟩) (B8 (mark80 b 61))) := Lib.hid (by have := ((HBK.out.drew).ext0 hx).row; simpa using this)
  clear hx hg
  simp only [putAll, v27, Nat.reduceAdd, Nat.zero_add]
  simp only [Act.put, List.setIfInBounds_toArray, List.set_cons_succ, List.set_cons_zero]
  have HI := fun W h1 h2 => Lib.hid (intact_any (some ⟨w.heap.size + 3, 0, none⟩) (b.length + 80) (mark80 b 61) A c b 61 W h1 h2 (by rw [mark80_length]; omega) (by rw [mark80_length]; omega) (by omega))
  rw [mark80_length] at HI
  replace HI := HI w2 HF.out (HROW.out.ext0 X2.out)
  go_wp2_with fail
  refine HI.out.mono ?_
  rintro e w3 ⟨rfl, x3⟩
  have X3 := Lib.hid (X2.out.trans0 x3)
  clear x3 HI
  go_wp2_with fail
  refine (HRUNS.out _).mono ?_
  rintro e w4 ⟨rfl, x4⟩
  have X4 := Lib.hid (X3.out.trans0 x4)
  clear x4
  go_wp2_with fail
  go_ret
  exact ⟨rfl, X4.out⟩
end Go.Proofs.Ytmobdofkiddfhaa
