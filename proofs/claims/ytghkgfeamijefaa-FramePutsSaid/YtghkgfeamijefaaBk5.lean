/- The book, walked: Apart. Written by gen_bk5.py. -/
import Derived.Test.YtghkgfeamijefaaBk4
set_option linter.unusedVariables false
set_option linter.unusedSimpArgs false
namespace Go.Proofs.Ytghkgfeamijefaa
open Go.RowKit B
section
variable {P : Program} {Q : Exit → Act → World → Prop} {o : Oper} {a : Act} {w : World} {K : Act → World → Prop} {p : Value → World → Prop}
theorem opCallF (hK : ∀ v w', p v w' → Ext None_ w w' → K (a.put o.dst v) w') {f : FuncId} {x : Operand} {xs : Array Operand} {ts : Array TypeId} {fn : Func} (hf : P.funcs[f]? = some fn) (hfn : (!(fn.name == "runtime.NumGoroutine") && !fn.body.isNone) = true) (ho : o.op = .call { callee := .value x, args := xs, argTypes := ts }) (hxv : a.eval x = .func (.func f) #[] #[]) {args : Array Value} (hx : xs.map a.eval = args)
    (hc : Calls P f args w fun e w' => ∃ v, e = .returned v ∧ p v w' ∧ Ext None_ w w') : o.wp P a w K Q := by
  subst hx
  rw [Bool.and_eq_true] at hfn
  have h1 : ¬ fn.name = "runtime.NumGoroutine" := by have := hfn.1; simpa using this
  have h2 : ¬ fn.body = none := by have := hfn.2; intro e; rw [e] at this; cases this
  have hr : (execOp a.eval o).run P w = .ok (.enter f (xs.map a.eval)) w := by
    have e : execOp a.eval o = callFunc f (#[] ++ xs.map a.eval ++ #[]) := by
      unfold execOp
      rw [ho]
      simp only [resolve, hxv]
      rfl
    rw [e]
    simp [callFunc, run_program, hf, h1, h2]
  unfold Oper.wp
  rw [hr, Oper.upon_enter]
  exact hc.mono fun e w' ⟨v, he, h1, h2⟩ => by subst he; exact hK v w' h1 h2
end
def ApartP (w1 : World) (gb : Nat) (K : List Kp) (e : Ending) (w' : World) : Prop := e = .returned (.bool true) ∧ Ext (fun k => k = gb ∨ ∃ x ∈ K, x.v.ownBlock = some k) w1 w'
set_option maxRecDepth 100000 in
set_option maxHeartbeats 16000000 in
theorem Apart_any (w1 : World) (gb : Nat) (K : List Kp) (w : World) (hb : BookAt w1 w gb K) (hK : K.length ≤ 4001) :
    Calls Try.prog 41 #[.pointer (some ⟨gb, 0, none⟩), BytesV] w (ApartP w1 gb K) := by
  have HB := Lib.hid hb
  clear hb
  go_enter Try.func41, Try.ntmps41
  go_wp2_with (go_at_call 72; refine (Stays_any w1 gb K _ HB.out hK).mono ?_; rintro e wB ⟨rfl, hb⟩; obtain ⟨e1, e2, e3, e4, U1, U2, h, ds, hc⟩ := hb; have HFK : Hid (FillK w1 gb K U1) := Lib.hid ⟨e2, fun x hx => (e3 x hx).1, e4, fun k hk => (hc.b1 k hk).1⟩; have HF0 : Hid (FillAt w1 wB gb K U1 0) := Lib.hid ⟨e1.mono (fun k _ e => .inl e), ⟨_, _, hc.blk⟩, hc.t1, fun i x k hi => absurd hi (by omega), fun i x _ hx => OwnB.ext (e3 x (List.mem_of_getElem? hx)).1 e1 (fun k hk e => (e3 x (List.mem_of_getElem? hx)).1.blk k hk e)⟩; clear hc e1 e3 e4 HB)
  go_loopw [5] (fun v5 wr => ∃ i : Nat, v5 = .int .i64 i ∧ i ≤ K.length ∧ Hid (FillAt w1 wr gb K U1 i)) (fun v5 _ => K.length - (intOf v5).toNat)
  case atStart => exact ⟨0, rfl, by omega, HF0⟩
  case round =>
    obtain ⟨i, rfl, hi, hf⟩ := hrel
    clear HF0
    obtain ⟨V2, hh, hblk⟩ := hf.out.blk
    have c0 := Blk.cell hblk 0
    clear hblk
    by_cases hlt : i < K.length
    · obtain ⟨⟨yv, yl⟩, hy⟩ : ∃ y, K[i]? = some y := ⟨_, List.getElem?_eq_getElem hlt⟩
      have HY := Lib.hid hy
      have hown := hf.out.todo i _ (Nat.le_refl _) hy
      simp only at hown
      obtain ⟨g1, o1, q1, hU1, hq1, hcl1⟩ := hf.out.t1.cells (by rw [List.length_map]; omega)
      have k1 := hcl1 i yv (by rw [List.getElem?_map, hy]; rfl)
      rw [List.length_map] at hq1 hU1
      have HU1 := Lib.hid hU1
      rw [hU1] at c0
      clear hcl1 hy hU1
      rcases hown.own.2 with ⟨rfl, hn0⟩ | ⟨k, cap, cur, rfl, _, hg, hnc, hcm, hcs, htake⟩
      · have HCUT := Lib.hid cut_nil0
        clear hown hn0
        go_wp2_with fail
        refine wp_region_mem [sv _, sv _, sv _, sv _, sv _, sv _, sv _, sv _, sv _, sv _, sv _, sv _, sv _, sv _, sv _, sv _, sv _] (by kernel_rfl) rfl rfl rfl rfl ⟨
          (by
            intro Lq aq wq hd hj Kq hK
            rw [if_pos (wanted_none rfl)]
            have f0 := hj.base 0 rfl rfl
            exact opMove hK rfl (ev f0) rfl),
          (by
            intro Lq aq wq hd hj Kq hK
            rw [if_pos (wanted_none rfl)]
            have f23 := hj.val 0 23 rfl rfl (by simp) rfl (hd ⟨0, .data⟩ (by simp) rfl)
            exact opNil hK rfl (ev f23) rfl),
          (by
            intro Lq aq wq hd hj Kq hK
            rw [if_pos (wanted_none rfl)]
            have f24 := hj.val 1 24 rfl rfl (by simp) rfl (hd ⟨1, .data⟩ (by simp) rfl)
            exact opFieldA hK rfl (k := 0) (ev f24) (fun W => by kernel_rfl) rfl),
          (by
            intro Lq aq wq hd hj Kq hK
            rw [if_pos (wanted_none rfl)]
            have f25 := hj.val 2 25 rfl rfl (by simp) rfl (hd ⟨2, .data⟩ (by simp) rfl)
            first
              | exact opLoad hK rfl (ev f25) Try.underlying59 rfl (Ext.cell ((Ext.refl None_ _).drew.trans0 hj.ext) c0 (fun a => a)) rfl
              | exact opLoad hK rfl (ev f25) Try.underlying59 rfl (Ext.cell ((Ext.refl None_ _).drew.trans0 hj.ext) k1 (fun a => a)) rfl),
          (by
            intro Lq aq wq hd hj Kq hK
            rw [if_pos (wanted_none rfl)]
            have f5 := hj.base 5 rfl rfl
            exact opMove hK rfl (ev f5) rfl),
          (by
            intro Lq aq wq hd hj Kq hK
            rw [if_pos (wanted_none rfl)]
            have f26 := hj.val 3 26 rfl rfl (by simp) rfl (hd ⟨3, .data⟩ (by simp) rfl)
            have f27 := hj.val 4 27 rfl rfl (by simp) rfl (hd ⟨4, .data⟩ (by simp) rfl)
            exact opIndexB hK rfl (j := o1 + i) (ev f26) (ev f27) Try.underlying59 infoSl1 (by omega) (by omega) (by simp) rfl),
          (by
            intro Lq aq wq hd hj Kq hK
            rw [if_pos (wanted_none rfl)]
            have f28 := hj.val 5 28 rfl rfl (by simp) rfl (hd ⟨5, .data⟩ (by simp) rfl)
            first
              | exact opLoad hK rfl (ev f28) Try.underlying22 rfl (Ext.cell ((Ext.refl None_ _).drew.trans0 hj.ext) c0 (fun a => a)) rfl
              | exact opLoad hK rfl (ev f28) Try.underlying22 rfl (Ext.cell ((Ext.refl None_ _).drew.trans0 hj.ext) k1 (fun a => a)) rfl),
          (by
            intro Lq aq wq hd hj Kq hK
            rw [if_pos (wanted_none rfl)]
            have f0 := hj.base 0 rfl rfl
            exact opMove hK rfl (ev f0) rfl),
          (by
            intro Lq aq wq hd hj Kq hK
            rw [if_pos (wanted_none rfl)]
            have f30 := hj.val 7 30 rfl rfl (by simp) rfl (hd ⟨7, .data⟩ (by simp) rfl)
            exact opNil hK rfl (ev f30) rfl),
          (by
            intro Lq aq wq hd hj Kq hK
            rw [if_pos (wanted_none rfl)]
            have f31 := hj.val 8 31 rfl rfl (by simp) rfl (hd ⟨8, .data⟩ (by simp) rfl)
            exact opFieldA hK rfl (k := 0) (ev f31) (fun W => by kernel_rfl) rfl),
          (by
            intro Lq aq wq hd hj Kq hK
            rw [if_pos (wanted_none rfl)]
            have f32 := hj.val 9 32 rfl rfl (by simp) rfl (hd ⟨9, .data⟩ (by simp) rfl)
            first
              | exact opLoad hK rfl (ev f32) Try.underlying59 rfl (Ext.cell ((Ext.refl None_ _).drew.trans0 hj.ext) c0 (fun a => a)) rfl
              | exact opLoad hK rfl (ev f32) Try.underlying59 rfl (Ext.cell ((Ext.refl None_ _).drew.trans0 hj.ext) k1 (fun a => a)) rfl),
          (by
            intro Lq aq wq hd hj Kq hK
            rw [if_pos (wanted_none rfl)]
            have f5 := hj.base 5 rfl rfl
            exact opMove hK rfl (ev f5) rfl),
          (by
            intro Lq aq wq hd hj Kq hK
            rw [if_pos (wanted_none rfl)]
            have f33 := hj.val 10 33 rfl rfl (by simp) rfl (hd ⟨10, .data⟩ (by simp) rfl)
            have f34 := hj.val 11 34 rfl rfl (by simp) rfl (hd ⟨11, .data⟩ (by simp) rfl)
            exact opIndexB hK rfl (j := o1 + i) (ev f33) (ev f34) Try.underlying59 infoSl1 (by omega) (by omega) (by simp) rfl),
          (by
            intro Lq aq wq hd hj Kq hK
            rw [if_pos (wanted_none rfl)]
            have f35 := hj.val 12 35 rfl rfl (by simp) rfl (hd ⟨12, .data⟩ (by simp) rfl)
            first
              | exact opLoad hK rfl (ev f35) Try.underlying22 rfl (Ext.cell ((Ext.refl None_ _).drew.trans0 hj.ext) c0 (fun a => a)) rfl
              | exact opLoad hK rfl (ev f35) Try.underlying22 rfl (Ext.cell ((Ext.refl None_ _).drew.trans0 hj.ext) k1 (fun a => a)) rfl),
          (by
            intro Lq aq wq hd hj Kq hK
            rw [if_pos (wanted_none rfl)]
            have f36 := hj.val 13 36 rfl rfl (by simp) rfl (hd ⟨13, .data⟩ (by simp) rfl)
            exact opCap hK rfl (ev f36) (by kernel_rfl) rfl),
          (by
            intro Lq aq wq hd hj Kq hK
            rw [if_pos (wanted_none rfl)]
            have f29 := hj.val 6 29 rfl rfl (by simp) rfl (hd ⟨6, .data⟩ (by simp) rfl)
            have f37 := hj.val 14 37 rfl rfl (by simp) rfl (hd ⟨14, .data⟩ (by simp) rfl)
            exact opSliceOp hK rfl (ev f29) rfl (congrArg some (ev f37)) rfl Try.underlying22 HCUT.out rfl),
          (by
            intro Lq aq wq hd hj Kq hK
            rw [if_pos (wanted_none rfl)]
            have f38 := hj.val 15 38 rfl rfl (by simp) rfl (hd ⟨15, .data⟩ (by simp) rfl)
            exact opAssign hK rfl (ev f38) rfl),
          trivial⟩ ?fin
        case fin =>
          intro vs w9 hx hg
          have v15 : vs 15 = _ := hg 15 (by decide)
          have v16 : vs 16 = _ := hg 16 (by decide)
          have hxx := (Ext.refl None_ _).drew.trans0 hx
          have HF9 := Lib.hid (hf.out.ext0 hxx)
          clear hx hg c0 k1
          simp only [putAll, v15, v16, Nat.reduceAdd, Nat.zero_add]
          simp only [Act.put, List.setIfInBounds_toArray, List.set_cons_succ, List.set_cons_zero]
          go_wp2_with fail
          go_loopw [7] (fun v7 wr => v7 = .int .i64 0 ∧ Hid (FillAt w1 wr gb K U1 i)) (fun _ _ => 0)
          case atStart => exact ⟨rfl, HF9⟩
          case round =>
            obtain ⟨rfl, hf9⟩ := hrel
            go_wp2_with fail
            have HN := Lib.hid (hf9.out.skip HY.out rfl)
            go_roundw
            case rel => exact ⟨i + 1, by go_num, by omega, HN⟩
            case measure => simp [intOf]; omega
      · have hcm2 := hcm
        unfold maxLen at hcm2
        have HCUT := Lib.hid (cut_full0 k yl.length cap hnc)
        have HG := Lib.hid hg
        have hcs2 := Lib.hid (show cur.toList.length = cap by rw [Array.length_toList]; omega)
        have hkg := hown.blk k rfl
        clear hown hg htake hcs
        go_wp2_with fail
        refine wp_region_mem [sv _, sv _, sv _, sv _, sv _, sv _, sv _, sv _, sv _, sv _, sv _, sv _, sv _, sv _, sv _, sv _, sv _] (by kernel_rfl) rfl rfl rfl rfl ⟨
          (by
            intro Lq aq wq hd hj Kq hK
            rw [if_pos (wanted_none rfl)]
            have f0 := hj.base 0 rfl rfl
            exact opMove hK rfl (ev f0) rfl),
          (by
            intro Lq aq wq hd hj Kq hK
            rw [if_pos (wanted_none rfl)]
            have f23 := hj.val 0 23 rfl rfl (by simp) rfl (hd ⟨0, .data⟩ (by simp) rfl)
            exact opNil hK rfl (ev f23) rfl),
          (by
            intro Lq aq wq hd hj Kq hK
            rw [if_pos (wanted_none rfl)]
            have f24 := hj.val 1 24 rfl rfl (by simp) rfl (hd ⟨1, .data⟩ (by simp) rfl)
            exact opFieldA hK rfl (k := 0) (ev f24) (fun W => by kernel_rfl) rfl),
          (by
            intro Lq aq wq hd hj Kq hK
            rw [if_pos (wanted_none rfl)]
            have f25 := hj.val 2 25 rfl rfl (by simp) rfl (hd ⟨2, .data⟩ (by simp) rfl)
            first
              | exact opLoad hK rfl (ev f25) Try.underlying59 rfl (Ext.cell ((Ext.refl None_ _).drew.trans0 hj.ext) c0 (fun a => a)) rfl
              | exact opLoad hK rfl (ev f25) Try.underlying59 rfl (Ext.cell ((Ext.refl None_ _).drew.trans0 hj.ext) k1 (fun a => a)) rfl),
          (by
            intro Lq aq wq hd hj Kq hK
            rw [if_pos (wanted_none rfl)]
            have f5 := hj.base 5 rfl rfl
            exact opMove hK rfl (ev f5) rfl),
          (by
            intro Lq aq wq hd hj Kq hK
            rw [if_pos (wanted_none rfl)]
            have f26 := hj.val 3 26 rfl rfl (by simp) rfl (hd ⟨3, .data⟩ (by simp) rfl)
            have f27 := hj.val 4 27 rfl rfl (by simp) rfl (hd ⟨4, .data⟩ (by simp) rfl)
            exact opIndexB hK rfl (j := o1 + i) (ev f26) (ev f27) Try.underlying59 infoSl1 (by omega) (by omega) (by simp) rfl),
          (by
            intro Lq aq wq hd hj Kq hK
            rw [if_pos (wanted_none rfl)]
            have f28 := hj.val 5 28 rfl rfl (by simp) rfl (hd ⟨5, .data⟩ (by simp) rfl)
            first
              | exact opLoad hK rfl (ev f28) Try.underlying22 rfl (Ext.cell ((Ext.refl None_ _).drew.trans0 hj.ext) c0 (fun a => a)) rfl
              | exact opLoad hK rfl (ev f28) Try.underlying22 rfl (Ext.cell ((Ext.refl None_ _).drew.trans0 hj.ext) k1 (fun a => a)) rfl),
          (by
            intro Lq aq wq hd hj Kq hK
            rw [if_pos (wanted_none rfl)]
            have f0 := hj.base 0 rfl rfl
            exact opMove hK rfl (ev f0) rfl),
          (by
            intro Lq aq wq hd hj Kq hK
            rw [if_pos (wanted_none rfl)]
            have f30 := hj.val 7 30 rfl rfl (by simp) rfl (hd ⟨7, .data⟩ (by simp) rfl)
            exact opNil hK rfl (ev f30) rfl),
          (by
            intro Lq aq wq hd hj Kq hK
            rw [if_pos (wanted_none rfl)]
            have f31 := hj.val 8 31 rfl rfl (by simp) rfl (hd ⟨8, .data⟩ (by simp) rfl)
            exact opFieldA hK rfl (k := 0) (ev f31) (fun W => by kernel_rfl) rfl),
          (by
            intro Lq aq wq hd hj Kq hK
            rw [if_pos (wanted_none rfl)]
            have f32 := hj.val 9 32 rfl rfl (by simp) rfl (hd ⟨9, .data⟩ (by simp) rfl)
            first
              | exact opLoad hK rfl (ev f32) Try.underlying59 rfl (Ext.cell ((Ext.refl None_ _).drew.trans0 hj.ext) c0 (fun a => a)) rfl
              | exact opLoad hK rfl (ev f32) Try.underlying59 rfl (Ext.cell ((Ext.refl None_ _).drew.trans0 hj.ext) k1 (fun a => a)) rfl),
          (by
            intro Lq aq wq hd hj Kq hK
            rw [if_pos (wanted_none rfl)]
            have f5 := hj.base 5 rfl rfl
            exact opMove hK rfl (ev f5) rfl),
          (by
            intro Lq aq wq hd hj Kq hK
            rw [if_pos (wanted_none rfl)]
            have f33 := hj.val 10 33 rfl rfl (by simp) rfl (hd ⟨10, .data⟩ (by simp) rfl)
            have f34 := hj.val 11 34 rfl rfl (by simp) rfl (hd ⟨11, .data⟩ (by simp) rfl)
            exact opIndexB hK rfl (j := o1 + i) (ev f33) (ev f34) Try.underlying59 infoSl1 (by omega) (by omega) (by simp) rfl),
          (by
            intro Lq aq wq hd hj Kq hK
            rw [if_pos (wanted_none rfl)]
            have f35 := hj.val 12 35 rfl rfl (by simp) rfl (hd ⟨12, .data⟩ (by simp) rfl)
            first
              | exact opLoad hK rfl (ev f35) Try.underlying22 rfl (Ext.cell ((Ext.refl None_ _).drew.trans0 hj.ext) c0 (fun a => a)) rfl
              | exact opLoad hK rfl (ev f35) Try.underlying22 rfl (Ext.cell ((Ext.refl None_ _).drew.trans0 hj.ext) k1 (fun a => a)) rfl),
          (by
            intro Lq aq wq hd hj Kq hK
            rw [if_pos (wanted_none rfl)]
            have f36 := hj.val 13 36 rfl rfl (by simp) rfl (hd ⟨13, .data⟩ (by simp) rfl)
            exact opCap hK rfl (ev f36) (by kernel_rfl) rfl),
          (by
            intro Lq aq wq hd hj Kq hK
            rw [if_pos (wanted_none rfl)]
            have f29 := hj.val 6 29 rfl rfl (by simp) rfl (hd ⟨6, .data⟩ (by simp) rfl)
            have f37 := hj.val 14 37 rfl rfl (by simp) rfl (hd ⟨14, .data⟩ (by simp) rfl)
            exact opSliceOp hK rfl (ev f29) rfl (congrArg some (ev f37)) rfl Try.underlying22 HCUT.out rfl),
          (by
            intro Lq aq wq hd hj Kq hK
            rw [if_pos (wanted_none rfl)]
            have f38 := hj.val 15 38 rfl rfl (by simp) rfl (hd ⟨15, .data⟩ (by simp) rfl)
            exact opAssign hK rfl (ev f38) rfl),
          trivial⟩ ?fin
        case fin =>
          intro vs w9 hx hg
          have v15 : vs 15 = _ := hg 15 (by decide)
          have v16 : vs 16 = _ := hg 16 (by decide)
          have hxx := (Ext.refl None_ _).drew.trans0 hx
          have HF9 := Lib.hid (hf.out.ext0 hxx)
          have HG9 := Lib.hid (hxx.get HG.out (fun a => a))
          clear hx hg c0 k1
          simp only [putAll, v15, v16, Nat.reduceAdd, Nat.zero_add]
          simp only [Act.put, List.setIfInBounds_toArray, List.set_cons_succ, List.set_cons_zero]
          go_wp2_with fail
          go_loopw [7] (fun v7 wr => ∃ j : Nat, v7 = .int .i64 j ∧ j ≤ cap ∧ Hid (wr.heap[k]? = some (.cells (half i j cur.toList).toArray 5 (0, 0))) ∧ Hid (Ext (fun q => q = k) w9 wr)) (fun v7 _ => cap - (intOf v7).toNat)
          case atStart => exact ⟨0, rfl, by omega, Lib.hid (by rw [half_zero]; simpa using HG9.out), Lib.hid (Ext.refl _ _)⟩
          case round =>
            obtain ⟨j, rfl, hj, hgq, hxq⟩ := hrel
            by_cases hjl : j < cap
            · have hcell : ∃ u, wr.cell? ⟨k, j, none⟩ = some u := ⟨(half i j cur.toList)[j]'(by rw [half_length _ _ _ (by rw [hcs2.out]; omega), hcs2.out]; omega), by rw [cell_of_row wr k j _ _ (0, 0) hgq.out]; simp⟩
              obtain ⟨u, hu⟩ := hcell
              have hfz : wr.frozen? ⟨k, j, none⟩ = false := by have h0 := hgq.out; simp [World.frozen?, h0]
              have HMK := Lib.hid (fun W => bytes_any i j W (by omega) (by unfold maxLen at hcm; omega))
              go_wp2_with (go_at_call 42; refine (HMK.out _).mono ?_; rintro e wM ⟨rfl, rfl⟩; clear HMK)
              have HH : Hid ((wr.setCell ⟨k, j, none⟩ (.int .u8 (markB i j))).heap[k]? = some (.cells (half i (j + 1) cur.toList).toArray 5 (0, 0))) := Lib.hid (by
                have h0 := hgq.out
                rw [← half_set i j cur.toList (by rw [hcs2.out]; omega)]
                simp [World.setCell, Array.getElem?_modify, h0])
              have HXN := Lib.hid (hxq.out.setCell (p := ⟨k, j, none⟩) (.inl rfl) (.int .u8 (markB i j)))
              go_roundw
              case rel => exact ⟨j + 1, by go_num, by omega, HH, HXN⟩
              case measure => simp [intOf]; omega
            · go_wp2_with fail
              have hjc : j = cap := by omega
              subst hjc
              have HN := Lib.hid (HF9.out.step HFK.out HY.out (k := k) (c := j) rfl hnc hcm hxq.out (by have h0 := hgq.out; rw [show half i j cur.toList = B8 (markR i j) from by rw [← hcs2.out]; exact half_full i _] at h0; exact h0))
              go_roundw
              case rel => exact ⟨i + 1, by go_num, by omega, HN⟩
              case measure => simp [intOf]; omega
    · obtain ⟨B1, b1, hU, _⟩ := hf.out.t1.isSl
      rw [List.length_map] at hU
      rw [hU] at c0
      have hiK : i = K.length := by omega
      subst hiK
      have HUB := Lib.hid hU
      clear hU hlt
      go_wp2_with fail
      go_loopw [8] (fun v8 wr => ∃ i : Nat, v8 = .int .i64 i ∧ i ≤ K.length ∧ Hid (FillAt w1 wr gb K U1 K.length)) (fun v8 _ => K.length - (intOf v8).toNat)
      case atStart => exact ⟨0, rfl, by omega, hf⟩
      case round =>
        obtain ⟨i, rfl, hi, hf⟩ := hrel
        obtain ⟨V2, hh, hblk⟩ := hf.out.blk
        have c0 := Blk.cell hblk 0
        by_cases hlt : i < K.length
        · obtain ⟨⟨yv, yl⟩, hy⟩ : ∃ y, K[i]? = some y := ⟨_, List.getElem?_eq_getElem hlt⟩
          have HY := Lib.hid hy
          obtain ⟨g1, o1, q1, hU1, hq1, hcl1⟩ := hf.out.t1.cells (by rw [List.length_map]; omega)
          have k1 := hcl1 i yv (by rw [List.getElem?_map, hy]; rfl)
          rw [List.length_map] at hq1 hU1
          rw [hU1] at c0
          have hdone := fun k h => hf.out.done i _ k hlt hy h
          simp only at hdone
          have hown := HFK.out.own _ (List.mem_of_getElem? hy)
          simp only at hown
          have HU1 := Lib.hid hU1
          clear hcl1 hy hU1 hblk
          rcases hown.own.2 with ⟨rfl, hn0⟩ | ⟨k, cap, cur, rfl, _, _, hnc, hcm, _, _⟩
          · have HCUT := Lib.hid cut_nil0
            clear hown hn0 hdone
            go_wp2_with fail
            refine wp_region_mem [sv _, sv _, sv _, sv _, sv _, sv _, sv _, sv _, sv _, sv _, sv _, sv _, sv _, sv _, sv _, sv _, sv _] (by kernel_rfl) rfl rfl rfl rfl ⟨
              (by
                intro Lq aq wq hd hj Kq hK
                rw [if_pos (wanted_none rfl)]
                have f0 := hj.base 0 rfl rfl
                exact opMove hK rfl (ev f0) rfl),
              (by
                intro Lq aq wq hd hj Kq hK
                rw [if_pos (wanted_none rfl)]
                have f61 := hj.val 0 61 rfl rfl (by simp) rfl (hd ⟨0, .data⟩ (by simp) rfl)
                exact opNil hK rfl (ev f61) rfl),
              (by
                intro Lq aq wq hd hj Kq hK
                rw [if_pos (wanted_none rfl)]
                have f62 := hj.val 1 62 rfl rfl (by simp) rfl (hd ⟨1, .data⟩ (by simp) rfl)
                exact opFieldA hK rfl (k := 0) (ev f62) (fun W => by kernel_rfl) rfl),
              (by
                intro Lq aq wq hd hj Kq hK
                rw [if_pos (wanted_none rfl)]
                have f63 := hj.val 2 63 rfl rfl (by simp) rfl (hd ⟨2, .data⟩ (by simp) rfl)
                first
                  | exact opLoad hK rfl (ev f63) Try.underlying59 rfl (Ext.cell ((Ext.refl None_ _).drew.trans0 hj.ext) c0 (fun a => a)) rfl
                  | exact opLoad hK rfl (ev f63) Try.underlying59 rfl (Ext.cell ((Ext.refl None_ _).drew.trans0 hj.ext) k1 (fun a => a)) rfl),
              (by
                intro Lq aq wq hd hj Kq hK
                rw [if_pos (wanted_none rfl)]
                have f8 := hj.base 8 rfl rfl
                exact opMove hK rfl (ev f8) rfl),
              (by
                intro Lq aq wq hd hj Kq hK
                rw [if_pos (wanted_none rfl)]
                have f64 := hj.val 3 64 rfl rfl (by simp) rfl (hd ⟨3, .data⟩ (by simp) rfl)
                have f65 := hj.val 4 65 rfl rfl (by simp) rfl (hd ⟨4, .data⟩ (by simp) rfl)
                exact opIndexB hK rfl (j := o1 + i) (ev f64) (ev f65) Try.underlying59 infoSl1 (by omega) (by omega) (by simp) rfl),
              (by
                intro Lq aq wq hd hj Kq hK
                rw [if_pos (wanted_none rfl)]
                have f66 := hj.val 5 66 rfl rfl (by simp) rfl (hd ⟨5, .data⟩ (by simp) rfl)
                first
                  | exact opLoad hK rfl (ev f66) Try.underlying22 rfl (Ext.cell ((Ext.refl None_ _).drew.trans0 hj.ext) c0 (fun a => a)) rfl
                  | exact opLoad hK rfl (ev f66) Try.underlying22 rfl (Ext.cell ((Ext.refl None_ _).drew.trans0 hj.ext) k1 (fun a => a)) rfl),
              (by
                intro Lq aq wq hd hj Kq hK
                rw [if_pos (wanted_none rfl)]
                have f0 := hj.base 0 rfl rfl
                exact opMove hK rfl (ev f0) rfl),
              (by
                intro Lq aq wq hd hj Kq hK
                rw [if_pos (wanted_none rfl)]
                have f68 := hj.val 7 68 rfl rfl (by simp) rfl (hd ⟨7, .data⟩ (by simp) rfl)
                exact opNil hK rfl (ev f68) rfl),
              (by
                intro Lq aq wq hd hj Kq hK
                rw [if_pos (wanted_none rfl)]
                have f69 := hj.val 8 69 rfl rfl (by simp) rfl (hd ⟨8, .data⟩ (by simp) rfl)
                exact opFieldA hK rfl (k := 0) (ev f69) (fun W => by kernel_rfl) rfl),
              (by
                intro Lq aq wq hd hj Kq hK
                rw [if_pos (wanted_none rfl)]
                have f70 := hj.val 9 70 rfl rfl (by simp) rfl (hd ⟨9, .data⟩ (by simp) rfl)
                first
                  | exact opLoad hK rfl (ev f70) Try.underlying59 rfl (Ext.cell ((Ext.refl None_ _).drew.trans0 hj.ext) c0 (fun a => a)) rfl
                  | exact opLoad hK rfl (ev f70) Try.underlying59 rfl (Ext.cell ((Ext.refl None_ _).drew.trans0 hj.ext) k1 (fun a => a)) rfl),
              (by
                intro Lq aq wq hd hj Kq hK
                rw [if_pos (wanted_none rfl)]
                have f8 := hj.base 8 rfl rfl
                exact opMove hK rfl (ev f8) rfl),
              (by
                intro Lq aq wq hd hj Kq hK
                rw [if_pos (wanted_none rfl)]
                have f71 := hj.val 10 71 rfl rfl (by simp) rfl (hd ⟨10, .data⟩ (by simp) rfl)
                have f72 := hj.val 11 72 rfl rfl (by simp) rfl (hd ⟨11, .data⟩ (by simp) rfl)
                exact opIndexB hK rfl (j := o1 + i) (ev f71) (ev f72) Try.underlying59 infoSl1 (by omega) (by omega) (by simp) rfl),
              (by
                intro Lq aq wq hd hj Kq hK
                rw [if_pos (wanted_none rfl)]
                have f73 := hj.val 12 73 rfl rfl (by simp) rfl (hd ⟨12, .data⟩ (by simp) rfl)
                first
                  | exact opLoad hK rfl (ev f73) Try.underlying22 rfl (Ext.cell ((Ext.refl None_ _).drew.trans0 hj.ext) c0 (fun a => a)) rfl
                  | exact opLoad hK rfl (ev f73) Try.underlying22 rfl (Ext.cell ((Ext.refl None_ _).drew.trans0 hj.ext) k1 (fun a => a)) rfl),
              (by
                intro Lq aq wq hd hj Kq hK
                rw [if_pos (wanted_none rfl)]
                have f74 := hj.val 13 74 rfl rfl (by simp) rfl (hd ⟨13, .data⟩ (by simp) rfl)
                exact opCap hK rfl (ev f74) (by kernel_rfl) rfl),
              (by
                intro Lq aq wq hd hj Kq hK
                rw [if_pos (wanted_none rfl)]
                have f67 := hj.val 6 67 rfl rfl (by simp) rfl (hd ⟨6, .data⟩ (by simp) rfl)
                have f75 := hj.val 14 75 rfl rfl (by simp) rfl (hd ⟨14, .data⟩ (by simp) rfl)
                exact opSliceOp hK rfl (ev f67) rfl (congrArg some (ev f75)) rfl Try.underlying22 HCUT.out rfl),
              (by
                intro Lq aq wq hd hj Kq hK
                rw [if_pos (wanted_none rfl)]
                have f76 := hj.val 15 76 rfl rfl (by simp) rfl (hd ⟨15, .data⟩ (by simp) rfl)
                exact opAssign hK rfl (ev f76) rfl),
              trivial⟩ ?fin
            case fin =>
              intro vs w9 hx hg
              have v15 : vs 15 = _ := hg 15 (by decide)
              have v16 : vs 16 = _ := hg 16 (by decide)
              have hxx := (Ext.refl None_ _).drew.trans0 hx
              have HF9 := Lib.hid (hf.out.ext0 hxx)
              clear hx hg c0 k1
              simp only [putAll, v15, v16, Nat.reduceAdd, Nat.zero_add]
              simp only [Act.put, List.setIfInBounds_toArray, List.set_cons_succ, List.set_cons_zero]
              go_wp2_with fail
              go_loopw [10] (fun v10 wr => v10 = .int .i64 0 ∧ Hid (FillAt w1 wr gb K U1 K.length)) (fun _ _ => 0)
              case atStart => exact ⟨rfl, HF9⟩
              case round =>
                obtain ⟨rfl, hf9⟩ := hrel
                go_wp2_with fail
                go_roundw
                case rel => exact ⟨i + 1, by go_num, by omega, hf9⟩
                case measure => simp [intOf]; omega
          · obtain ⟨c', hc1, hc2, hc3, hc4⟩ := hdone k rfl
            injection hc1 with _ _ hce
            subst hce
            have hcm2 := hcm
            unfold maxLen at hcm2
            have HCUT := Lib.hid (cut_full0 k yl.length cap hnc)
            have HG := Lib.hid hc4
            clear hown hdone hc4
            go_wp2_with fail
            refine wp_region_mem [sv _, sv _, sv _, sv _, sv _, sv _, sv _, sv _, sv _, sv _, sv _, sv _, sv _, sv _, sv _, sv _, sv _] (by kernel_rfl) rfl rfl rfl rfl ⟨
              (by
                intro Lq aq wq hd hj Kq hK
                rw [if_pos (wanted_none rfl)]
                have f0 := hj.base 0 rfl rfl
                exact opMove hK rfl (ev f0) rfl),
              (by
                intro Lq aq wq hd hj Kq hK
                rw [if_pos (wanted_none rfl)]
                have f61 := hj.val 0 61 rfl rfl (by simp) rfl (hd ⟨0, .data⟩ (by simp) rfl)
                exact opNil hK rfl (ev f61) rfl),
              (by
                intro Lq aq wq hd hj Kq hK
                rw [if_pos (wanted_none rfl)]
                have f62 := hj.val 1 62 rfl rfl (by simp) rfl (hd ⟨1, .data⟩ (by simp) rfl)
                exact opFieldA hK rfl (k := 0) (ev f62) (fun W => by kernel_rfl) rfl),
              (by
                intro Lq aq wq hd hj Kq hK
                rw [if_pos (wanted_none rfl)]
                have f63 := hj.val 2 63 rfl rfl (by simp) rfl (hd ⟨2, .data⟩ (by simp) rfl)
                first
                  | exact opLoad hK rfl (ev f63) Try.underlying59 rfl (Ext.cell ((Ext.refl None_ _).drew.trans0 hj.ext) c0 (fun a => a)) rfl
                  | exact opLoad hK rfl (ev f63) Try.underlying59 rfl (Ext.cell ((Ext.refl None_ _).drew.trans0 hj.ext) k1 (fun a => a)) rfl),
              (by
                intro Lq aq wq hd hj Kq hK
                rw [if_pos (wanted_none rfl)]
                have f8 := hj.base 8 rfl rfl
                exact opMove hK rfl (ev f8) rfl),
              (by
                intro Lq aq wq hd hj Kq hK
                rw [if_pos (wanted_none rfl)]
                have f64 := hj.val 3 64 rfl rfl (by simp) rfl (hd ⟨3, .data⟩ (by simp) rfl)
                have f65 := hj.val 4 65 rfl rfl (by simp) rfl (hd ⟨4, .data⟩ (by simp) rfl)
                exact opIndexB hK rfl (j := o1 + i) (ev f64) (ev f65) Try.underlying59 infoSl1 (by omega) (by omega) (by simp) rfl),
              (by
                intro Lq aq wq hd hj Kq hK
                rw [if_pos (wanted_none rfl)]
                have f66 := hj.val 5 66 rfl rfl (by simp) rfl (hd ⟨5, .data⟩ (by simp) rfl)
                first
                  | exact opLoad hK rfl (ev f66) Try.underlying22 rfl (Ext.cell ((Ext.refl None_ _).drew.trans0 hj.ext) c0 (fun a => a)) rfl
                  | exact opLoad hK rfl (ev f66) Try.underlying22 rfl (Ext.cell ((Ext.refl None_ _).drew.trans0 hj.ext) k1 (fun a => a)) rfl),
              (by
                intro Lq aq wq hd hj Kq hK
                rw [if_pos (wanted_none rfl)]
                have f0 := hj.base 0 rfl rfl
                exact opMove hK rfl (ev f0) rfl),
              (by
                intro Lq aq wq hd hj Kq hK
                rw [if_pos (wanted_none rfl)]
                have f68 := hj.val 7 68 rfl rfl (by simp) rfl (hd ⟨7, .data⟩ (by simp) rfl)
                exact opNil hK rfl (ev f68) rfl),
              (by
                intro Lq aq wq hd hj Kq hK
                rw [if_pos (wanted_none rfl)]
                have f69 := hj.val 8 69 rfl rfl (by simp) rfl (hd ⟨8, .data⟩ (by simp) rfl)
                exact opFieldA hK rfl (k := 0) (ev f69) (fun W => by kernel_rfl) rfl),
              (by
                intro Lq aq wq hd hj Kq hK
                rw [if_pos (wanted_none rfl)]
                have f70 := hj.val 9 70 rfl rfl (by simp) rfl (hd ⟨9, .data⟩ (by simp) rfl)
                first
                  | exact opLoad hK rfl (ev f70) Try.underlying59 rfl (Ext.cell ((Ext.refl None_ _).drew.trans0 hj.ext) c0 (fun a => a)) rfl
                  | exact opLoad hK rfl (ev f70) Try.underlying59 rfl (Ext.cell ((Ext.refl None_ _).drew.trans0 hj.ext) k1 (fun a => a)) rfl),
              (by
                intro Lq aq wq hd hj Kq hK
                rw [if_pos (wanted_none rfl)]
                have f8 := hj.base 8 rfl rfl
                exact opMove hK rfl (ev f8) rfl),
              (by
                intro Lq aq wq hd hj Kq hK
                rw [if_pos (wanted_none rfl)]
                have f71 := hj.val 10 71 rfl rfl (by simp) rfl (hd ⟨10, .data⟩ (by simp) rfl)
                have f72 := hj.val 11 72 rfl rfl (by simp) rfl (hd ⟨11, .data⟩ (by simp) rfl)
                exact opIndexB hK rfl (j := o1 + i) (ev f71) (ev f72) Try.underlying59 infoSl1 (by omega) (by omega) (by simp) rfl),
              (by
                intro Lq aq wq hd hj Kq hK
                rw [if_pos (wanted_none rfl)]
                have f73 := hj.val 12 73 rfl rfl (by simp) rfl (hd ⟨12, .data⟩ (by simp) rfl)
                first
                  | exact opLoad hK rfl (ev f73) Try.underlying22 rfl (Ext.cell ((Ext.refl None_ _).drew.trans0 hj.ext) c0 (fun a => a)) rfl
                  | exact opLoad hK rfl (ev f73) Try.underlying22 rfl (Ext.cell ((Ext.refl None_ _).drew.trans0 hj.ext) k1 (fun a => a)) rfl),
              (by
                intro Lq aq wq hd hj Kq hK
                rw [if_pos (wanted_none rfl)]
                have f74 := hj.val 13 74 rfl rfl (by simp) rfl (hd ⟨13, .data⟩ (by simp) rfl)
                exact opCap hK rfl (ev f74) (by kernel_rfl) rfl),
              (by
                intro Lq aq wq hd hj Kq hK
                rw [if_pos (wanted_none rfl)]
                have f67 := hj.val 6 67 rfl rfl (by simp) rfl (hd ⟨6, .data⟩ (by simp) rfl)
                have f75 := hj.val 14 75 rfl rfl (by simp) rfl (hd ⟨14, .data⟩ (by simp) rfl)
                exact opSliceOp hK rfl (ev f67) rfl (congrArg some (ev f75)) rfl Try.underlying22 HCUT.out rfl),
              (by
                intro Lq aq wq hd hj Kq hK
                rw [if_pos (wanted_none rfl)]
                have f76 := hj.val 15 76 rfl rfl (by simp) rfl (hd ⟨15, .data⟩ (by simp) rfl)
                exact opAssign hK rfl (ev f76) rfl),
              trivial⟩ ?fin
            case fin =>
              intro vs w9 hx hg
              have v15 : vs 15 = _ := hg 15 (by decide)
              have v16 : vs 16 = _ := hg 16 (by decide)
              have hxx := (Ext.refl None_ _).drew.trans0 hx
              have HF9 := Lib.hid (hf.out.ext0 hxx)
              have HG9 := Lib.hid (hxx.get HG.out (fun a => a))
              clear hx hg c0 k1
              simp only [putAll, v15, v16, Nat.reduceAdd, Nat.zero_add]
              simp only [Act.put, List.setIfInBounds_toArray, List.set_cons_succ, List.set_cons_zero]
              go_wp2_with fail
              go_loopw [10] (fun v10 wr => ∃ j : Nat, v10 = .int .i64 j ∧ j ≤ cap ∧ Hid (wr.heap[k]? = some (.cells (B8 (markR i cap)).toArray 5 (0, 0))) ∧ Hid (FillAt w1 wr gb K U1 K.length)) (fun v10 _ => cap - (intOf v10).toNat)
              case atStart => exact ⟨0, rfl, by omega, HG9, HF9⟩
              case round =>
                obtain ⟨j, rfl, hj, hgq, hf9⟩ := hrel
                by_cases hjl : j < cap
                · have hu : wr.cell? ⟨k, j, none⟩ = some (.int .u8 (markB i j)) := by
                    rw [cell_of_row wr k j _ _ (0, 0) hgq.out]
                    simp [B8, markR_get i cap j hjl]
                  have HMK := Lib.hid (fun W => bytes_any i j W (by omega) (by unfold maxLen at hc3; omega))
                  go_wp2_with fail
                  refine wp_region_mem [sv _, sv _, sv _, sv _, sv _, sv _, sv _, sv (.int .u8 (markB i j)), sv (.bool false)] (by kernel_rfl) rfl rfl rfl rfl ⟨
                    (by
                      intro Lq aq wq hd hj Kq hK
                      rw [if_pos (wanted_none rfl)]
                      have f9 := hj.base 9 rfl rfl
                      exact opMove hK rfl (ev f9) rfl),
                    (by
                      intro Lq aq wq hd hj Kq hK
                      rw [if_pos (wanted_none rfl)]
                      have f10 := hj.base 10 rfl rfl
                      exact opMove hK rfl (ev f10) rfl),
                    (by
                      intro Lq aq wq hd hj Kq hK
                      rw [if_pos (wanted_none rfl)]
                      have f83 := hj.val 0 83 rfl rfl (by simp) rfl (hd ⟨0, .data⟩ (by simp) rfl)
                      have f84 := hj.val 1 84 rfl rfl (by simp) rfl (hd ⟨1, .data⟩ (by simp) rfl)
                      exact opIndexB hK rfl (j := j) (ev f83) (ev f84) Try.underlying22 u8size (by omega) (by omega) (by simp) rfl),
                    (by
                      intro Lq aq wq hd hj Kq hK
                      rw [if_pos (wanted_none rfl)]
                      have f85 := hj.val 2 85 rfl rfl (by simp) rfl (hd ⟨2, .data⟩ (by simp) rfl)
                      first
                        | exact opLoad hK rfl (ev f85) Try.underlying5 rfl (Ext.cell ((Ext.refl None_ _).drew.trans0 hj.ext) hu (fun a => a)) rfl),
                    (by
                      intro Lq aq wq hd hj Kq hK
                      rw [if_pos (wanted_none rfl)]
                      have f1 := hj.base 1 rfl rfl
                      exact opMove hK rfl (ev f1) rfl),
                    (by
                      intro Lq aq wq hd hj Kq hK
                      rw [if_pos (wanted_none rfl)]
                      have f8 := hj.base 8 rfl rfl
                      exact opMove hK rfl (ev f8) rfl),
                    (by
                      intro Lq aq wq hd hj Kq hK
                      rw [if_pos (wanted_none rfl)]
                      have f10 := hj.base 10 rfl rfl
                      exact opMove hK rfl (ev f10) rfl),
                    (by
                      intro Lq aq wq hd hj Kq hK
                      rw [if_pos (wanted_none rfl)]
                      have f87 := hj.val 4 87 rfl rfl (by simp) rfl (hd ⟨4, .data⟩ (by simp) rfl)
                      have f88 := hj.val 5 88 rfl rfl (by simp) rfl (hd ⟨5, .data⟩ (by simp) rfl)
                      have f89 := hj.val 6 89 rfl rfl (by simp) rfl (hd ⟨6, .data⟩ (by simp) rfl)
                      exact opCallF hK Try.func42 (by kernel_rfl) rfl (ev f87) (args := #[.int .i64 i, .int .i64 j]) (by simp [ev f88, ev f89]) ((HMK.out _).mono fun e w' ⟨h1, h2⟩ => ⟨_, h1, rfl, h2 ▸ Ext.refl _ _⟩)),
                    (by
                      intro Lq aq wq hd hj Kq hK
                      rw [if_pos (wanted_none rfl)]
                      have f86 := hj.val 3 86 rfl rfl (by simp) rfl (hd ⟨3, .data⟩ (by simp) rfl)
                      have f90 := hj.val 7 90 rfl rfl (by simp) rfl (hd ⟨7, .data⟩ (by simp) rfl)
                      exact opBin hK rfl (ev f86) (ev f90) (guardInt _ _ _ _ _ _ _ _ _) (binNeInt _ _ _ _ _) (congrArg Value.bool (by simp))),
                    trivial⟩ ?fin
                  case fin =>
                    intro vs w10 hx hg
                    have v8 : vs 8 = _ := hg 8 (by decide)
                    have hxy := (Ext.refl None_ _).drew.trans0 hx
                    have HGN := Lib.hid (hxy.get hgq.out (fun a => a))
                    have HFN := Lib.hid (hf9.out.ext0 hxy)
                    clear hx hg hu hxy
                    simp only [putAll, v8, Nat.reduceAdd, Nat.zero_add]
                    simp only [Act.put, List.setIfInBounds_toArray, List.set_cons_succ, List.set_cons_zero]
                    go_wp2_with fail
                    go_roundw
                    case rel => exact ⟨j + 1, by go_num, by omega, HGN, HFN⟩
                    case measure => simp [intOf]; omega
                · go_wp2_with fail
                  go_roundw
                  case rel => exact ⟨i + 1, by go_num, by omega, hf9⟩
                  case measure => simp [intOf]; omega
        · have hblkf := Blk.frozen hblk
          have d0 := Blk.cell hblk 0
          have d1 := Blk.cell hblk 1
          have d2 := Blk.cell hblk 2
          obtain ⟨B3, b3, hU3, _⟩ := hf.out.t1.isSl
          rw [List.length_map] at hU3
          rw [hU3] at c0 d0
          clear hblk hU3
          go_wp2_with fail
          go_ret
          exact ⟨rfl, ((hf.out.ext.setCell (p := ⟨gb, 0, none⟩) (.inl (.inl rfl)) _).setCell (p := ⟨gb, 1, none⟩) (.inl (.inl rfl)) _).setCell (p := ⟨gb, 2, none⟩) (.inl (.inl rfl)) _⟩
end Go.Proofs.Ytghkgfeamijefaa
