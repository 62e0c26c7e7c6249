/- draylaw26, walked: NetOnly. Written by gen_np.py. -/
import Derived.Test.YthjabbheobpoeaaNo
import Derived.Test.YthjabbheobpoeaaOpenN
import Derived.BigQuiet
import Derived.Deep.CutBlock
set_option linter.unusedVariables false
set_option linter.unusedSimpArgs false
namespace Go.Proofs.Ythjabbheobpoeaa
open Go.RowKit B
theorem within0 (x : Int) (n : Nat) (h : 0 < n) : ∃ a : Nat, within x 0 ((n : Int) - 1) = a ∧ a < n := by
  have := within_rng x 0 ((n : Int) - 1) (by omega)
  exact ⟨(within x 0 ((n : Int) - 1)).toNat, by omega, by omega⟩
theorem within2 (x : Int) : ∃ n : Nat, within x 2 5 = n ∧ 2 ≤ n ∧ n ≤ 5 := by
  have := within_rng x 2 5 (by omega)
  exact ⟨(within x 2 5).toNat, by omega, by omega, by omega⟩
theorem askSzN : (Try.prog.info? 47).map (·.size) = some 5 := by kernel_rfl
theorem opFieldG {P : Program} {o : Oper} {a : Act} {w : World} {K : Act → World → Prop} {Q : Exit → Act → World → Prop} {p : Value → World → Prop} (hK : ∀ v w', p v w' → Ext None_ w w' → K (a.put o.dst v) w') {s : TypeId} {x : Operand} {f : Nat} (ho : o.op = .fieldAddr s x f) {ad : Addr} {k : Nat} (hx : a.eval x = .pointer (some ad)) (hr : ∀ W : World, (Instr.fieldAt s (.pointer (some ad)) f).run P W = .ok (.pointer (some ⟨ad.block, ad.off + k, none⟩)) W) (hp : p (.pointer (some ⟨ad.block, ad.off + k, none⟩)) w) : o.wp P a w K Q :=
  opField hK ho hx hr hp
theorem infoI64 : (Try.prog.info? 3).map (fun i => (i.zero, i.size, i.bytes)) = some (some (.int .i64 0), 1, 8) := by kernel_rfl
theorem opIndexArr {P : Program} {o : Oper} {a : Act} {w : World} {K : Act → World → Prop} {Q : Exit → Act → World → Prop} {p : Value → World → Prop} (hK : ∀ v w', p v w' → Ext None_ w w' → K (a.put o.dst v) w') {t : TypeId} {x ix : Operand} (ho : o.op = .indexAddr t x ix) {b off j sz len : Nat} {e : TypeId} {k : IntKind} {i : Int} (hx : a.eval x = .pointer (some ⟨b, off, none⟩)) (hi : a.eval ix = .int k i)
    (ht : P.underlying t = some (.array len e)) (hsz : (P.info? e).map (·.size) = some sz) (h0 : 0 ≤ i) (h1 : i < len) (hj : off + i.toNat * sz = j) (hp : p (.pointer (some ⟨b, j, none⟩)) w) : o.wp P a w K Q := by
  refine opVal hK (v := .pointer (some ⟨b, j, none⟩)) ?_ hp
  unfold execOp
  simp only [ho, hx, hi]
  have hadd : (⟨b, off, none⟩ : Addr).add (i.toNat * sz) = ⟨b, j, none⟩ := by
    subst hj
    unfold Addr.add
    split <;> simp_all
  cases hq : P.info? e with
  | none => simp [hq] at hsz
  | some inf =>
    have hs : inf.size = sz := by simpa [hq] using hsz
    simp [Instr.indexAt, Instr.sureAddr, asIntOf, run_underlying ht, sizeOf, typeInfo, hq, hs, h0, h1, hadd]
theorem int_slice (x : Int) (W : World) : (Instr.buildSlice 41 1 #[(0, .int .i64 x)]).run Try.prog W = .ok (.slice (some ⟨W.heap.size, 0, none⟩) 1 1) (W.alloc (.cells #[.int .i64 x] 3)) := by
  obtain ⟨ie, hi, hz⟩ := Option.map_eq_some_iff.1 infoI64
  simp only [Prod.mk.injEq] at hz
  obtain ⟨hz0, hz1, hz2⟩ := hz
  exact run_buildSlice W 41 3 1 _ _ ie _ Try.underlying41 hi hz0 (by rw [hz1]; decide) (by rw [hz1]; decide) (by rw [hz1]; kernel_rfl)
/-- append of whole numbers. -/
theorem wpAppI {w : World} {o : Oper} {a : Act} {K : Act → World → Prop} {Q : Exit → Act → World → Prop} (s x : Operand) (ho : o.op = .call { callee := .builtin .append, args := #[s, x], argTypes := #[41, 41] })
    (ok : Nat → Prop) (v : Value) (l : List Int) (hs : a.eval s = v) (hown : Own w 3 1 ok v l.length (I8 l))
    (A : Option Addr) (c : Nat) (m : List Int) (hx : a.eval x = .slice A m.length c) (hnews : Row w A (I8 m)) (hb : l.length + m.length ≤ 1000000)
    (h : ∀ v' w', Own w' 3 1 (fun k => v.ownBlock = some k ∨ w.heap.size ≤ k) v' (l ++ m).length (I8 (l ++ m)) → Ext (fun k => v.ownBlock = some k) w w' → K (a.put o.dst v') w') : o.wp Try.prog a w K Q :=
  wpApp s x 41 ho 3 _ 1 8 Try.underlying41 infoI64 rfl (by decide) (by decide) ok v l.length (I8 l) hs hown A m.length c (I8 m) hx (by rw [I8_length]; omega) hnews (I8_one m) (by omega) (fun v' w' h1 h2 => h v' w' (by rw [List.length_append, I8_append]; exact h1) h2)
theorem intSz1 : (Try.prog.info? 3).map (·.size) = some 1 := by kernel_rfl
theorem int_slice0 (W : World) : (Instr.buildSlice 41 0 #[]).run Try.prog W = .ok (.slice (some ⟨W.heap.size, 0, none⟩) 0 0) (W.alloc (.cells #[] 3)) := by
  obtain ⟨ie, hi, hz⟩ := Option.map_eq_some_iff.1 infoI64
  simp [Instr.buildSlice, run_underlying (P := Try.prog) Try.underlying41, sizeOf, typeInfo, hi, newRow, Instr.fill]
  rw [show Array.range 0 = #[] from Array.eq_empty_of_size_eq_zero (by simp), Array.map_empty]
theorem hne_of {l : List Int} (h : l.Nodup) {j : Nat} {t : Int} (h1 : l[j]? = some t) : ∀ i, i < j → ∀ u, l[i]? = some u → u ≠ t := fun i hi u hu e => by
  have := first_at h h1 (e ▸ hu)
  omega
/-! ### the words of the region that takes a number out of a row -/
def SP5 (w3 : World) (b9 : Nat) : Nat → Nat → Prop := fun j k => (j ≤ 1 ∧ w3.heap.size ≤ k) ∨ (j = 2 ∧ k = b9)
def cOw (w3 : World) (b9 p : Nat) (l : List Int) : CG (SP5 w3 b9) := cR p p (fun u w => Own w 3 1 (fun k => w3.heap.size ≤ k) u l.length (I8 l)) (fun _ _ _ h hx => h.ext0 hx) (fun k h1 h2 => by omega)
/-! ### the words of the region that appends to a row -/
def SP (w3 : World) (r : Value) (b9 : Nat) : Nat → Nat → Prop := fun j k => (j = 0 ∧ r.ownBlock = some k) ∨ (j = 1 ∧ k = b9)
def cNs (w3 : World) (r : Value) (b9 : Nat) (x : Int) : CG (SP w3 r b9) := cR 0 0 (fun u w => ∃ b, u = .slice (some ⟨b, 0, none⟩) 1 1 ∧ Row w (some ⟨b, 0, none⟩) (I8 [x])) (fun _ _ _ ⟨b, h1, h2⟩ hx => ⟨b, h1, h2.ext0 hx⟩) (fun k h1 h2 => by omega)
def cOwn (w3 : World) (r : Value) (b9 : Nat) (l : List Int) : CG (SP w3 r b9) := cR 1 1 (fun u w => Own w 3 1 (fun k => r.ownBlock = some k ∨ w3.heap.size ≤ k) u l.length (I8 l)) (fun _ _ _ h hx => h.ext0 hx) (fun k h1 h2 => by omega)
/-- What the region leaves: another row in the table. -/
def PutP (w : World) (b9 g : Nat) (N : NS) (m : Nat) (cs : List Value) (S : Nat → Nat → List Int) (xa xb : Nat) (l' : List Int) (W : World) : Prop := ∃ r', SA w W b9 (cs.set (xa * 5 + xb) r') (updS S xa xb l') ∧ LN w (psOf b9 (cs.set (xa * 5 + xb) r')) g N m W
theorem PutP.ext0 {w W W' : World} {b9 g m : Nat} {N : NS} {cs : List Value} {S : Nat → Nat → List Int} {xa xb : Nat} {l' : List Int} (h : PutP w b9 g N m cs S xa xb l' W) (hx : Ext None_ W W') : PutP w b9 g N m cs S xa xb l' W' := by
  obtain ⟨r', h1, h2⟩ := h
  exact ⟨r', h1.ext0 hx, h2.ext0 hx⟩
/-- The store of a row. -/
theorem put_fin {w W W1 : World} {b9 g m : Nat} {N : NS} {cs : List Value} {S : Nat → Nat → List Int} {xa xb : Nat} {r r' : Value} {l' : List Int} (h : SA w W b9 cs S) (hn : LN w (psOf b9 cs) g N m W) (ha : xa < 5) (hb : xb < 5) (hr : cs[xa * 5 + xb]? = some r) (hx1 : Ext (fun k => r.ownBlock = some k) W W1) (ho : Own W1 3 1 (fun k => r.ownBlock = some k ∨ W.heap.size ≤ k) r' l'.length (I8 l')) :
    (W1.cell? ⟨b9, xa * 5 + xb, none⟩).isSome = true ∧ W1.frozen? ⟨b9, xa * 5 + xb, none⟩ = false ∧ PutP w b9 g N m cs S xa xb l' (W1.setCell ⟨b9, xa * 5 + xb, none⟩ r') ∧ r'.oneCell' = true ∧ r'.cells = #[r'] := by
  have hblk := h.blk.ext hx1 (fun e => h.far _ r b9 hr e rfl)
  have hxs : Ext (fun k => k = b9) W1 (W1.setCell ⟨b9, xa * 5 + xb, none⟩ r') := Ext.setCell (p := ⟨b9, xa * 5 + xb, none⟩) (Ext.refl (fun k => k = b9) W1) (.inl rfl) r'
  have hb2 : Blk (W1.setCell ⟨b9, xa * 5 + xb, none⟩ r') b9 (cs.set (xa * 5 + xb) r').toArray 44 := by
    have := hblk.set (xa * 5 + xb) r'
    rwa [List.setIfInBounds_toArray] at this
  have hw : w.heap.size ≤ W.heap.size := by obtain ⟨M, C, _, h2, _⟩ := hn; exact h2.size
  obtain ⟨A, c, rfl, _⟩ := Own.slice ho
  refine ⟨?_, Blk.frozen hblk _, ⟨_, h.put hw ha hb hr hx1 ho hxs hb2, LN.put h hn ha hb hr hx1 ho hxs⟩, rfl, rfl⟩
  rw [Blk.cell hblk]
  have := (List.getElem?_eq_some_iff.1 hr).1
  simp [this]
theorem ps_new (b9 : Nat) : psOf b9 (List.replicate 25 (Value.slice none 0 0)) = [b9] := rfl
set_option maxRecDepth 100000 in
set_option maxHeartbeats 16000000 in
theorem NetOnly_any (n0 : Int) (hn0 : I64 n0) (A0 : Option Addr) (cap : Nat) (l : List (Int × Int)) (A2 : Option Addr) (c2 : Nat) (od : List Int) (w : World) (hl : AksN w A0 l) (hlen : l.length ≤ 140737488351232) (ho : Row w A2 (I8 od)) (hoc : od.length ≤ c2) (hom : c2 ≤ 140737488351232) (hod : ∀ x ∈ od, I64 x) :
    Calls Try.prog 4 #[.int .i64 n0, .slice A0 l.length cap, .slice A2 od.length c2] w fun e w' => e = .returned (.bool true) ∧ Ext None_ w w' := by
  obtain ⟨n, hn, h2, h5⟩ := within2 n0
  have HW := Lib.hid (fun W => within_neg n0 2 5 W hn0 (by decide) (by decide) (by decide))
  rw [hn] at HW
  have HL := Lib.hid hl
  have HO := Lib.hid ho
  have HOD := Lib.hid hod
  clear hl ho hod hn
  go_enter Try.func4, Try.ntmps4
  go_wp2_with fail
  refine (HW.out w).mono ?_
  rintro e w0 ⟨rfl, rfl⟩
  go_wp2_with fail
  refine (ln_new (n : Int) w (by omega) (by omega)).mono ?_
  rintro e w1 ⟨g, rfl, h1⟩
  have HA0 := Lib.hid (SA.new (W' := w1.alloc (.cells (List.replicate 25 (Value.slice none 0 0)).toArray 44)) (by obtain ⟨M, C, h2, h3, _⟩ := h1; exact h3) (Blk.new w1 _ _))
  have HN0 := Lib.hid (h1.add (x0 w1 (.cells (List.replicate 25 (Value.slice none 0 0)).toArray 44)) (Nat.le_refl _) (by rw [size_alloc]; omega))
  rw [← ps_new] at HN0
  obtain ⟨b9, hb9⟩ : ∃ x, x = w1.heap.size := ⟨_, rfl⟩
  rw [← hb9] at HA0 HN0
  clear h1
  go_upto_block 0 with fail
  simp only [← hb9]
  go_cut [10, 11, 12] from 36 (fun v10 v11 v12 wx => ∃ (i : Nat) (N : NS) (S : Nat → Nat → List Int) (cs : List Value), v10 = .int .i64 i ∧ i ≤ 60 ∧ Hid (OR N n S i) ∧ Hid (SA w wx b9 cs S) ∧ Hid (LN w (psOf b9 cs) g N i wx))
  case first =>
   go_wp2_with fail
   go_loopw [10] (fun v10 wr => ∃ (i : Nat) (N : NS) (S : Nat → Nat → List Int) (cs : List Value), v10 = .int .i64 i ∧ i ≤ 60 ∧ Hid (OR N n S i) ∧ Hid (SA w wr b9 cs S) ∧ Hid (LN w (psOf b9 cs) g N i wr)) (fun v10 _ => 60 - (intOf v10).toNat)
   case atStart => exact ⟨0, _, _, _, rfl, by omega, Lib.hid (OR.new n), HA0, HN0⟩
   case round =>
     clear HA0 HN0 hb9
     obtain ⟨i, N, S, cs, rfl, hi, hor, hsa, hln⟩ := hrel
     by_cases hend : i < l.length ∧ i < 60
     · obtain ⟨hil, hi60⟩ := hend
       obtain ⟨ad, hA0, ⟨k1, k2⟩, hq1, hq2⟩ := HL.out i l[i] (List.getElem?_eq_getElem hil)
       subst hA0
       have hxw : Ext None_ w wr := by obtain ⟨M, C, _, h3, _⟩ := hln.out; exact h3
       have d1 := hxw.cell k1 (fun a => a)
       have d2 := hxw.cell k2 (fun a => a)
       clear k1 k2 hxw
       obtain ⟨q1, hq1e⟩ : ∃ x, x = l[i].1 := ⟨_, rfl⟩
       obtain ⟨q2, hq2e⟩ : ∃ x, x = l[i].2 := ⟨_, rfl⟩
       rw [← hq1e] at d1 hq1
       rw [← hq2e] at d2 hq2
       clear hq1e hq2e
       obtain ⟨xa, ha, hal⟩ := within0 q1 n (by omega)
       obtain ⟨xb, hb, hbl⟩ := within0 q2 n (by omega)
       have HWA := Lib.hid (fun W => within_neg q1 0 ((n : Int) - 1) W hq1 (by decide) (by omega) (by omega))
       have HWB := Lib.hid (fun W => within_neg q2 0 ((n : Int) - 1) W hq2 (by decide) (by omega) (by omega))
       rw [ha] at HWA
       rw [hb] at HWB
       clear ha hb hq1 hq2
       go_wp2_with fail
       refine wp_region_mem [sv _, sv _, sv (.pointer (some (ad.add (i * 5)))), sv _, sv (.int .i64 q1), sv _, sv _, sv (.int .i64 xa), sv _, sv _, sv (.pointer (some (ad.add (i * 5)))), sv _, sv (.int .i64 q2), sv _, sv _, sv (.int .i64 xb), sv _, sv _] (by kernel_rfl) rfl rfl rfl rfl ⟨
         (by
           intro Lq aq wq hd hj Kq hK
           rw [if_pos (wanted_none rfl)]
           have f1 := hj.base 1 rfl rfl
           exact opMove hK rfl (ev f1) rfl),
         (by
           intro Lq aq wq hd hj Kq hK
           rw [if_pos (wanted_none rfl)]
           have f10 := hj.base 10 rfl rfl
           exact opMove hK rfl (ev f10) rfl),
         (by
           intro Lq aq wq hd hj Kq hK
           rw [if_pos (wanted_none rfl)]
           have f46 := hj.val 0 46 rfl rfl (by simp) rfl (hd ⟨0, .data⟩ (by simp) rfl)
           have f47 := hj.val 1 47 rfl rfl (by simp) rfl (hd ⟨1, .data⟩ (by simp) rfl)
           exact opIndex hK rfl (k := .i64) (i := (i : Int)) (ev f46) (ev f47) Try.underlying40 askSzN (by omega) (by omega) (congrArg (fun z => Value.pointer (some (ad.add (z * 5)))) (by omega))),
         (by
           intro Lq aq wq hd hj Kq hK
           rw [if_pos (wanted_none rfl)]
           have f48 := hj.val 2 48 rfl rfl (by simp) rfl (hd ⟨2, .data⟩ (by simp) rfl)
           exact opFieldG hK rfl (k := 1) (ev f48) (fun W => by kernel_rfl) rfl),
         (by
           intro Lq aq wq hd hj Kq hK
           rw [if_pos (wanted_none rfl)]
           have f49 := hj.val 3 49 rfl rfl (by simp) rfl (hd ⟨3, .data⟩ (by simp) rfl)
           exact opLoad hK rfl (ev f49) Try.underlying3 rfl (Ext.cell ((Ext.refl None_ wr).drew.trans0 hj.ext) d1 (fun a => a)) rfl),
         (by
           intro Lq aq wq hd hj Kq hK
           rw [if_pos (wanted_none rfl)]
           have f0 := hj.base 0 rfl rfl
           exact opMove hK rfl (ev f0) rfl),
         (by
           intro Lq aq wq hd hj Kq hK
           rw [if_pos (wanted_none rfl)]
           have f51 := hj.val 5 51 rfl rfl (by simp) rfl (hd ⟨5, .data⟩ (by simp) rfl)
           exact opBin hK rfl (ev f51) rfl (guardInt _ _ _ _ _ _ _ _ _) (binSub _ _ _ _ (IntWalk.i64_in _ (by omega))) rfl),
         (by
           intro Lq aq wq hd hj Kq hK
           rw [if_pos (wanted_none rfl)]
           have f50 := hj.val 4 50 rfl rfl (by simp) rfl (hd ⟨4, .data⟩ (by simp) rfl)
           have f52 := hj.val 6 52 rfl rfl (by simp) rfl (hd ⟨6, .data⟩ (by simp) rfl)
           exact opCall hK Try.func17 (by kernel_rfl) rfl (args := #[.int .i64 q1, .int .i64 0, .int .i64 ((n : Int) - 1)]) (by simp [ev f50, ev f52]) ((HWA.out _).mono fun e w' ⟨h1, h2⟩ => ⟨_, h1, rfl, h2 ▸ Ext.refl _ _⟩)),
         (by
           intro Lq aq wq hd hj Kq hK
           rw [if_pos (wanted_none rfl)]
           have f1 := hj.base 1 rfl rfl
           exact opMove hK rfl (ev f1) rfl),
         (by
           intro Lq aq wq hd hj Kq hK
           rw [if_pos (wanted_none rfl)]
           have f10 := hj.base 10 rfl rfl
           exact opMove hK rfl (ev f10) rfl),
         (by
           intro Lq aq wq hd hj Kq hK
           rw [if_pos (wanted_none rfl)]
           have f54 := hj.val 8 54 rfl rfl (by simp) rfl (hd ⟨8, .data⟩ (by simp) rfl)
           have f55 := hj.val 9 55 rfl rfl (by simp) rfl (hd ⟨9, .data⟩ (by simp) rfl)
           exact opIndex hK rfl (k := .i64) (i := (i : Int)) (ev f54) (ev f55) Try.underlying40 askSzN (by omega) (by omega) (congrArg (fun z => Value.pointer (some (ad.add (z * 5)))) (by omega))),
         (by
           intro Lq aq wq hd hj Kq hK
           rw [if_pos (wanted_none rfl)]
           have f56 := hj.val 10 56 rfl rfl (by simp) rfl (hd ⟨10, .data⟩ (by simp) rfl)
           exact opFieldG hK rfl (k := 2) (ev f56) (fun W => by kernel_rfl) rfl),
         (by
           intro Lq aq wq hd hj Kq hK
           rw [if_pos (wanted_none rfl)]
           have f57 := hj.val 11 57 rfl rfl (by simp) rfl (hd ⟨11, .data⟩ (by simp) rfl)
           exact opLoad hK rfl (ev f57) Try.underlying3 rfl (Ext.cell ((Ext.refl None_ wr).drew.trans0 hj.ext) d2 (fun a => a)) rfl),
         (by
           intro Lq aq wq hd hj Kq hK
           rw [if_pos (wanted_none rfl)]
           have f0 := hj.base 0 rfl rfl
           exact opMove hK rfl (ev f0) rfl),
         (by
           intro Lq aq wq hd hj Kq hK
           rw [if_pos (wanted_none rfl)]
           have f59 := hj.val 13 59 rfl rfl (by simp) rfl (hd ⟨13, .data⟩ (by simp) rfl)
           exact opBin hK rfl (ev f59) rfl (guardInt _ _ _ _ _ _ _ _ _) (binSub _ _ _ _ (IntWalk.i64_in _ (by omega))) rfl),
         (by
           intro Lq aq wq hd hj Kq hK
           rw [if_pos (wanted_none rfl)]
           have f58 := hj.val 12 58 rfl rfl (by simp) rfl (hd ⟨12, .data⟩ (by simp) rfl)
           have f60 := hj.val 14 60 rfl rfl (by simp) rfl (hd ⟨14, .data⟩ (by simp) rfl)
           exact opCall hK Try.func17 (by kernel_rfl) rfl (args := #[.int .i64 q2, .int .i64 0, .int .i64 ((n : Int) - 1)]) (by simp [ev f58, ev f60]) ((HWB.out _).mono fun e w' ⟨h1, h2⟩ => ⟨_, h1, rfl, h2 ▸ Ext.refl _ _⟩)),
         (by
           intro Lq aq wq hd hj Kq hK
           rw [if_pos (wanted_none rfl)]
           have f53 := hj.val 7 53 rfl rfl (by simp) rfl (hd ⟨7, .data⟩ (by simp) rfl)
           exact opAssign hK rfl (ev f53) rfl),
         (by
           intro Lq aq wq hd hj Kq hK
           rw [if_pos (wanted_none rfl)]
           have f61 := hj.val 15 61 rfl rfl (by simp) rfl (hd ⟨15, .data⟩ (by simp) rfl)
           exact opAssign hK rfl (ev f61) rfl),
         trivial⟩ ?fin
       case fin =>
         intro vs w2 hx hg
         have v16 : vs 16 = _ := hg 16 (by decide)
         have v17 : vs 17 = _ := hg 17 (by decide)
         have HX2 := Lib.hid ((Ext.refl None_ wr).drew.trans0 hx)
         clear hx hg d1 d2
         simp only [putAll, v16, v17, Nat.reduceAdd, Nat.zero_add]
         simp only [Act.put, List.setIfInBounds_toArray, List.set_cons_succ, List.set_cons_zero]
         have HSA := Lib.hid (hsa.out.ext0 HX2.out)
         have HLN := Lib.hid (hln.out.ext0 HX2.out)
         clear hsa hln HX2
         go_wp2_with fail
         refine (ln_s1 HLN.out (by simp only [maxLen]; omega) (mkM 1 xa xb ((i : Int) + 1)) ⟨by show I64 (xa : Int); unfold I64; omega, by show I64 (xb : Int); unfold I64; omega, rfl⟩).mono ?_
         rintro e w3 ⟨rfl, hst⟩
         have HSA2 := Lib.hid (HSA.out.step hst)
         have HLN2 := Lib.hid hst.1
         have hor2 := hor.out.send hal hbl hi60
         have hslen := hor.out.len xa xb
         obtain ⟨N', hN'⟩ : ∃ x, x = send1 N (mkM 1 xa xb ((i : Int) + 1)) := ⟨_, rfl⟩
         rw [← hN'] at HLN2 hor2
         clear hor HSA HLN hst hN'
         by_cases hab : xa = xb
         · have HOR2 : Hid (OR N' n S (i + 1)) := Lib.hid (by unfold sendS at hor2; rwa [if_pos hab] at hor2)
           subst hab
           clear hor2
           go_wp2_with fail
           go_roundw
           case rel => exact ⟨i + 1, N', S, cs, by go_num, by omega, HOR2, HSA2, HLN2⟩
           case measure => simp [intOf]; omega
         · have HOR2 : Hid (OR N' n (updS S xa xb (S xa xb ++ [(i : Int) + 1])) (i + 1)) := Lib.hid (by unfold sendS at hor2; rwa [if_neg hab] at hor2)
           clear hor2
           obtain ⟨r, hr, hrow⟩ := HSA2.out.row xa xb (by omega) (by omega)
           have c9 : w3.cell? ⟨b9, xa * 5 + xb, none⟩ = some r := by rw [Blk.cell HSA2.out.blk, List.getElem?_toArray]; exact hr
           have HROW := Lib.hid (And.intro hslen hrow)
           have HPUT := Lib.hid (fun (W1 : World) (r' : Value) (hx1 : Ext (fun k => r.ownBlock = some k) w3 W1) (ho : Own W1 3 1 (fun k => r.ownBlock = some k ∨ w3.heap.size ≤ k) r' (S xa xb ++ [(i : Int) + 1]).length (I8 (S xa xb ++ [(i : Int) + 1]))) => put_fin HSA2.out HLN2.out (by omega) (by omega) hr hx1 ho)
           clear hr hrow hslen
           go_wp2_with fail
           refine wp_region_chain [10, 13] [(0, 1), (0, 1), (0, 0), (0, 0), (0, 0), (0, 0), (0, 0), (0, 0), (0, 0), (0, 0), (0, 1), (0, 1), (0, 1), (1, 2)] (SP w3 r b9) [⟨fun W => Ext None_ w3 W, fun _ _ h hx => h.trans0 hx⟩, ⟨fun W => Ext (fun k => r.ownBlock = some k) w3 W, fun _ _ h hx => h.trans0 hx⟩, ⟨fun W => PutP w b9 g N' (i + 1) cs S xa xb (S xa xb ++ [(i : Int) + 1]) W, fun _ _ h hx => h.ext0 hx⟩] [cv _, cv _, cv _, cv _, cv (.pointer (some ⟨b9, xa * 5, none⟩)), cv (.pointer (some ⟨b9, xa * 5 + xb, none⟩)), cv r, cv _, cv (.int .i64 ((i : Int) + 1)), cNs w3 r b9 ((i : Int) + 1), cOwn w3 r b9 (S xa xb ++ [(i : Int) + 1]), cv (.pointer (some ⟨b9, xa * 5, none⟩)), cv (.pointer (some ⟨b9, xa * 5 + xb, none⟩)), cAny] (by kernel_rfl) rfl rfl rfl rfl rfl rfl rfl rfl (((Ext.refl None_ w3).drew : Ext None_ w3 w3.drew)) ⟨
             (by
               intro Lq aq wq kq hd hj hlo hhi Kq hK
               rw [if_pos (wanted_none rfl)]
               have f11 := hj.base 11 rfl rfl
               exact opMove hK rfl (ev f11) rfl),
             (by
               intro Lq aq wq kq hd hj hlo hhi Kq hK
               rw [if_pos (wanted_none rfl)]
               have f12 := hj.base 12 rfl rfl
               exact opMove hK rfl (ev f12) rfl),
             (by
               intro Lq aq wq kq hd hj hlo hhi Kq hK
               rw [if_pos (wanted_none rfl)]
               have f11 := hj.base 11 rfl rfl
               exact opMove hK rfl (ev f11) rfl),
             (by
               intro Lq aq wq kq hd hj hlo hhi Kq hK
               rw [if_pos (wanted_none rfl)]
               have f12 := hj.base 12 rfl rfl
               exact opMove hK rfl (ev f12) rfl),
             (by
               intro Lq aq wq kq hd hj hlo hhi Kq hK
               rw [if_pos (wanted_none rfl)]
               have f9 := hj.base 9 rfl rfl
               have f75 := hj.val 2 75 rfl rfl (by simp) rfl (hd ⟨2, .data⟩ (by simp) rfl)
               exact opIndexArr hK rfl (j := xa * 5) (sz := 5) (len := 5) (ev f9) (ev f75) Try.underlying44 (by kernel_rfl) (by omega) (by omega) (by simp) rfl),
             (by
               intro Lq aq wq kq hd hj hlo hhi Kq hK
               rw [if_pos (wanted_none rfl)]
               have f77 := hj.val 4 77 rfl rfl (by simp) rfl (hd ⟨4, .data⟩ (by simp) rfl)
               have f76 := hj.val 3 76 rfl rfl (by simp) rfl (hd ⟨3, .data⟩ (by simp) rfl)
               exact opIndexArr hK rfl (j := xa * 5 + xb) (sz := 1) (len := 5) (ev f77) (ev f76) Try.underlying43 (by kernel_rfl) (by omega) (by omega) (by simp) rfl),
             (by
               intro Lq aq wq kq hd hj hlo hhi Kq hK
               rw [if_pos (wanted_none rfl)]
               have f78 := hj.val 5 78 rfl rfl (by simp) rfl (hd ⟨5, .data⟩ (by simp) rfl)
               obtain rfl : kq = 0 := Nat.le_antisymm hhi (Nat.zero_le _)
               exact opLoad hK rfl (ev f78) Try.underlying41 rfl (Ext.cell (hj.inv : Ext None_ w3 wq) c9 (fun a => a)) rfl),
             (by
               intro Lq aq wq kq hd hj hlo hhi Kq hK
               rw [if_pos (wanted_none rfl)]
               have f10 := hj.base 10 rfl rfl
               exact opMove hK rfl (ev f10) rfl),
             (by
               intro Lq aq wq kq hd hj hlo hhi Kq hK
               rw [if_pos (wanted_none rfl)]
               have f80 := hj.val 7 80 rfl rfl (by simp) rfl (hd ⟨7, .data⟩ (by simp) rfl)
               exact opBin hK rfl (ev f80) rfl (guardInt _ _ _ _ _ _ _ _ _) (binAdd _ _ _ _ (IntWalk.i64_in _ (by omega))) rfl),
             (by
               intro Lq aq wq kq hd hj hlo hhi Kq hK
               rw [if_pos (wanted_none rfl)]
               have f81 := hj.val 8 81 rfl rfl (by simp) rfl (hd ⟨8, .data⟩ (by simp) rfl)
               obtain rfl : kq = 0 := Nat.le_antisymm hhi (Nat.zero_le _)
               exact opSlice hK rfl (ps := #[(0, .int .i64 ((i : Int) + 1))]) (by simp [ev f81]) (int_slice _) ⟨Nat.le_refl _, fun _ => ⟨wq.heap.size, rfl, (Blk.new wq _ _).row⟩⟩),
             (by
               intro Lq aq wq hd hj Kq hK
               rw [if_pos (wanted_none rfl)]
               have f79 := hj.val 6 79 rfl rfl (by simp) rfl (hd ⟨6, .data⟩ (by simp) rfl)
               obtain ⟨u82, f82, g82⟩ := hj.at_ 9 82 rfl rfl (by simp) (hd ⟨9, .data⟩ (by simp) rfl)
               obtain ⟨bs, rfl, hbs⟩ := g82.2 (Nat.le_refl _)
               have hxq : Ext None_ w3 wq := hj.inv
               exact wpAppI _ _ rfl _ r (S xa xb) (ev f79) (HROW.out.2.ext0 hxq) _ 1 [(i : Int) + 1] (ev f82) hbs (by have := HROW.out.1; simp; omega) (fun v' w' h1 h2 => hK v' w' ⟨Nat.le_refl _, fun _ => h1.mono (fun k _ e => e.imp id (fun e => Nat.le_trans (Ext.size hxq) e))⟩ ((Ext.mono hxq (fun _ _ e => e.elim)).trans h2 (fun _ _ e => e)) (h2.mono (fun k _ e => .inl ⟨rfl, e⟩)))),
             (by
               intro Lq aq wq kq hd hj hlo hhi Kq hK
               rw [if_pos (wanted_none rfl)]
               have f9 := hj.base 9 rfl rfl
               have f73 := hj.val 0 73 rfl rfl (by simp) rfl (hd ⟨0, .data⟩ (by simp) rfl)
               exact opIndexArr hK rfl (j := xa * 5) (sz := 5) (len := 5) (ev f9) (ev f73) Try.underlying44 (by kernel_rfl) (by omega) (by omega) (by simp) rfl),
             (by
               intro Lq aq wq kq hd hj hlo hhi Kq hK
               rw [if_pos (wanted_none rfl)]
               have f84 := hj.val 11 84 rfl rfl (by simp) rfl (hd ⟨11, .data⟩ (by simp) rfl)
               have f74 := hj.val 1 74 rfl rfl (by simp) rfl (hd ⟨1, .data⟩ (by simp) rfl)
               exact opIndexArr hK rfl (j := xa * 5 + xb) (sz := 1) (len := 5) (ev f84) (ev f74) Try.underlying43 (by kernel_rfl) (by omega) (by omega) (by simp) rfl),
             (by
               intro Lq aq wq hd hj Kq hK
               rw [if_pos (wanted_none rfl)]
               have f85 := hj.val 12 85 rfl rfl (by simp) rfl (hd ⟨12, .data⟩ (by simp) rfl)
               obtain ⟨u83, f83, g83⟩ := hj.at_ 10 83 rfl rfl (by simp) (hd ⟨10, .data⟩ (by simp) rfl)
               have ho := g83.2 (Nat.le_refl _)
               obtain ⟨p1, p2, p3, p4, p5⟩ := HPUT.out wq u83 hj.inv ho
               exact opStoreC hK rfl (ev f85) (ev f83) p4 p5 (by kernel_rfl) p1 p2 trivial p3 ((Ext.refl _ _).setCell (.inl (.inr ⟨rfl, rfl⟩)) _)),
             trivial⟩ ?fin
           case fin =>
             intro vs w4 hI hg
             have hI : PutP w b9 g N' (i + 1) cs S xa xb (S xa xb ++ [(i : Int) + 1]) w4 := hI
             obtain ⟨r', h1, h2⟩ := hI
             have HSA3 := Lib.hid h1
             have HLN3 := Lib.hid h2
             clear hg h1 h2 c9 HROW HPUT HSA2 HLN2
             simp only [putAll, Nat.reduceAdd, Nat.zero_add]
             simp only [Act.put, List.setIfInBounds_toArray, List.set_cons_succ, List.set_cons_zero]
             go_wp2_with fail
             go_roundw
             case rel => exact ⟨i + 1, N', _, _, by go_num, by omega, HOR2, HSA3, HLN3⟩
             case measure => simp [intOf]; omega
     · by_cases hil : i < l.length
       · have hi60 : ¬ i < 60 := fun e => hend ⟨hil, e⟩
         clear hend
         go_wp2_with fail
         go_meet
         exact ⟨i, N, S, cs, rfl, hi, hor, hsa, hln⟩
       · clear hend
         go_wp2_with fail
         go_meet
         exact ⟨i, N, S, cs, rfl, hi, hor, hsa, hln⟩
  case rest =>
    obtain ⟨i, N, S, cs, rfl, hi, hor, hsa, hln⟩ := hcut
    clear HA0 HN0 hb9
    have hm0 : i ≤ 60 := hi
    go_wp2_with fail
    go_loopw [13] (fun v13 wr => ∃ (xa m : Nat) (N : NS) (S : Nat → Nat → List Int) (cs : List Value), v13 = .int .i64 xa ∧ xa ≤ n ∧ m ≤ 60 + xa * 400 ∧ Hid (∀ x y, x < xa → y < n → S x y = []) ∧ Hid (OR N n S i) ∧ Hid (SA w wr b9 cs S) ∧ Hid (LN w (psOf b9 cs) g N m wr)) (fun v13 _ => n - (intOf v13).toNat)
    case atStart => exact ⟨0, i, N, S, cs, rfl, by omega, by omega, Lib.hid (fun x y h => by omega), hor, hsa, hln⟩
    case round =>
      clear hor hsa hln
      obtain ⟨xa, m, N, S, cs, rfl, hxa, hm, hem, hor, hsa, hln⟩ := hrel
      by_cases hlta : xa < n
      · go_wp2_with fail
        go_loopw [14] (fun v14 wr => ∃ (xb m : Nat) (N : NS) (S : Nat → Nat → List Int) (cs : List Value), v14 = .int .i64 xb ∧ xb ≤ n ∧ m ≤ 60 + xa * 400 + xb * 70 ∧ Hid (∀ x y, (x < xa ∨ x = xa ∧ y < xb) → y < n → S x y = []) ∧ Hid (OR N n S i) ∧ Hid (SA w wr b9 cs S) ∧ Hid (LN w (psOf b9 cs) g N m wr)) (fun v14 _ => n - (intOf v14).toNat)
        case atStart => exact ⟨0, m, N, S, cs, rfl, by omega, by omega, Lib.hid (fun x y h => hem.out x y (by omega)), hor, hsa, hln⟩
        case round =>
          clear hem hor hsa hln hm
          obtain ⟨xb, m, N, S, cs, rfl, hxb, hm, hem, hor, hsa, hln⟩ := hrel
          by_cases hltb : xb < n
          · skip
            obtain ⟨r, hr, hrow⟩ := hsa.out.row xa xb (by omega) (by omega)
            have c9 : wr.cell? ⟨b9, xa * 5 + xb, none⟩ = some r := by rw [Blk.cell hsa.out.blk, List.getElem?_toArray]; exact hr
            obtain ⟨sl, hsl⟩ : ∃ x, x = (S xa xb).length := ⟨_, rfl⟩
            obtain ⟨Ar, cr, rfl, hcr, hcm, _⟩ := Own.slice hrow
            have hsl60 := hor.out.len xa xb
            rw [← hsl] at c9 hcr hsl60
            have HWT := Lib.hid (fun W (hx : Ext None_ wr W) => ln_waiting (hln.out.ext0 hx) (xa : Int) (xb : Int) (by unfold I64; omega) (by unfold I64; omega))
            rw [show (N.wait (xa : Int) (xb : Int)).length = sl by rw [hor.out.wt xa xb hlta hltb, List.length_map, hsl]] at HWT
            clear hr hrow
            go_wp2_with fail
            refine wp_region_mem [sv _, sv _, sv _, sv (.int .i64 sl), sv _, sv _, sv (.pointer (some ⟨b9, xa * 5, none⟩)), sv (.pointer (some ⟨b9, xa * 5 + xb, none⟩)), sv (.slice Ar sl cr), sv _, sv (.bool false)] (by kernel_rfl) rfl rfl rfl rfl ⟨
              (by
                intro Lq aq wq hd hj Kq hK
                rw [if_pos (wanted_none rfl)]
                have f7 := hj.base 7 rfl rfl
                exact opMove hK rfl (ev f7) rfl),
              (by
                intro Lq aq wq hd hj Kq hK
                rw [if_pos (wanted_none rfl)]
                have f13 := hj.base 13 rfl rfl
                exact opMove hK rfl (ev f13) rfl),
              (by
                intro Lq aq wq hd hj Kq hK
                rw [if_pos (wanted_none rfl)]
                have f14 := hj.base 14 rfl rfl
                exact opMove hK rfl (ev f14) rfl),
              (by
                intro Lq aq wq hd hj Kq hK
                rw [if_pos (wanted_none rfl)]
                have f96 := hj.val 0 96 rfl rfl (by simp) rfl (hd ⟨0, .data⟩ (by simp) rfl)
                have f97 := hj.val 1 97 rfl rfl (by simp) rfl (hd ⟨1, .data⟩ (by simp) rfl)
                have f98 := hj.val 2 98 rfl rfl (by simp) rfl (hd ⟨2, .data⟩ (by simp) rfl)
                exact opCall hK Try.func9 (by kernel_rfl) rfl (args := #[.pointer (some ⟨g, 0, none⟩), .int .i64 xa, .int .i64 xb]) (by simp [ev f96, ev f97, ev f98]) ((HWT.out _ ((Ext.refl None_ wr).drew.trans0 hj.ext)).mono fun e w' ⟨h1, h2⟩ => ⟨_, h1, rfl, h2 ▸ Ext.refl _ _⟩)),
              (by
                intro Lq aq wq hd hj Kq hK
                rw [if_pos (wanted_none rfl)]
                have f13 := hj.base 13 rfl rfl
                exact opMove hK rfl (ev f13) rfl),
              (by
                intro Lq aq wq hd hj Kq hK
                rw [if_pos (wanted_none rfl)]
                have f14 := hj.base 14 rfl rfl
                exact opMove hK rfl (ev f14) rfl),
              (by
                intro Lq aq wq hd hj Kq hK
                rw [if_pos (wanted_none rfl)]
                have f9 := hj.base 9 rfl rfl
                have f100 := hj.val 4 100 rfl rfl (by simp) rfl (hd ⟨4, .data⟩ (by simp) rfl)
                exact opIndexArr hK rfl (j := xa * 5) (sz := 5) (len := 5) (ev f9) (ev f100) Try.underlying44 (by kernel_rfl) (by omega) (by omega) (by simp) rfl),
              (by
                intro Lq aq wq hd hj Kq hK
                rw [if_pos (wanted_none rfl)]
                have f102 := hj.val 6 102 rfl rfl (by simp) rfl (hd ⟨6, .data⟩ (by simp) rfl)
                have f101 := hj.val 5 101 rfl rfl (by simp) rfl (hd ⟨5, .data⟩ (by simp) rfl)
                exact opIndexArr hK rfl (j := xa * 5 + xb) (sz := 1) (len := 5) (ev f102) (ev f101) Try.underlying43 (by kernel_rfl) (by omega) (by omega) (by simp) rfl),
              (by
                intro Lq aq wq hd hj Kq hK
                rw [if_pos (wanted_none rfl)]
                have f103 := hj.val 7 103 rfl rfl (by simp) rfl (hd ⟨7, .data⟩ (by simp) rfl)
                exact opLoad hK rfl (ev f103) Try.underlying41 rfl (Ext.cell ((Ext.refl None_ wr).drew.trans0 hj.ext) c9 (fun a => a)) rfl),
              (by
                intro Lq aq wq hd hj Kq hK
                rw [if_pos (wanted_none rfl)]
                have f104 := hj.val 8 104 rfl rfl (by simp) rfl (hd ⟨8, .data⟩ (by simp) rfl)
                exact opLen hK rfl (ev f104) (by kernel_rfl) rfl),
              (by
                intro Lq aq wq hd hj Kq hK
                rw [if_pos (wanted_none rfl)]
                have f99 := hj.val 3 99 rfl rfl (by simp) rfl (hd ⟨3, .data⟩ (by simp) rfl)
                have f105 := hj.val 9 105 rfl rfl (by simp) rfl (hd ⟨9, .data⟩ (by simp) rfl)
                exact opBin hK rfl (ev f99) (ev f105) (guardInt _ _ _ _ _ _ _ _ _) (binNeInt _ _ _ _ _) (congrArg Value.bool (by first | rfl | assumption | (simp; omega) | (simp [*]; done)))),
              trivial⟩ ?fin
            case fin =>
              intro vs w2 hx hg
              have v10 : vs 10 = _ := hg 10 (by decide)
              have HX2 := Lib.hid ((Ext.refl None_ wr).drew.trans0 hx)
              clear hx hg c9 HWT
              simp only [putAll, v10, Nat.reduceAdd, Nat.zero_add]
              simp only [Act.put, List.setIfInBounds_toArray, List.set_cons_succ, List.set_cons_zero]
              have HSA4 := Lib.hid (hsa.out.ext0 HX2.out)
              have HLN4 := Lib.hid (hln.out.ext0 HX2.out)
              clear hsa hln HX2
              go_wp2_with fail
              go_loopw [15] (fun v15 wr => ∃ (k m : Nat) (N : NS) (S : Nat → Nat → List Int) (cs : List Value), v15 = .int .i64 k ∧ k + (S xa xb).length = sl ∧ m + (S xa xb).length ≤ 60 + xa * 400 + xb * 70 + sl ∧ Hid (∀ x y, (x < xa ∨ x = xa ∧ y < xb) → y < n → S x y = []) ∧ Hid (OR N n S i) ∧ Hid (SA w wr b9 cs S) ∧ Hid (LN w (psOf b9 cs) g N m wr)) (fun v15 _ => sl - (intOf v15).toNat)
              case atStart => exact ⟨0, m, N, S, cs, rfl, by omega, by omega, hem, hor, HSA4, HLN4⟩
              case round =>
                clear HSA4 HLN4 hor hem hsl hm
                obtain ⟨k, m, N, S, cs, rfl, hk, hm, hem, hor, hsa, hln⟩ := hrel
                obtain ⟨r, hr, hrow⟩ := hsa.out.row xa xb (by omega) (by omega)
                have c9 : wr.cell? ⟨b9, xa * 5 + xb, none⟩ = some r := by rw [Blk.cell hsa.out.blk, List.getElem?_toArray]; exact hr
                obtain ⟨Az, cz, rfl, hcz, _, hrz⟩ := Own.slice hrow
                by_cases he : S xa xb = []
                · rw [he] at c9 hm hk
                  have HNO := Lib.hid (hor.out.none hlta hltb he 0)
                  have HEM := Lib.hid (fun (x y : Nat) (h1 : x < xa ∨ x = xa ∧ y < xb + 1) (h2 : y < n) => (by
                    by_cases e : x = xa ∧ y = xb
                    · rw [e.1, e.2]; exact he
                    · exact hem.out x y (by omega) h2 : S x y = []))
                  have HWZ : Hid (((N.wait (xa : Int) (xb : Int)).length : Int) = 0) := Lib.hid (by rw [hor.out.wt xa xb hlta hltb, he]; rfl)
                  simp only [List.length_nil] at c9 hm hk
                  clear hr hrow hrz hcz hem he
                  go_wp2_with fail
                  refine (ln_deliver hln.out (by simp only [maxLen]; omega) (xa : Int) (xb : Int) 0 (by unfold I64; omega) (by unfold I64; omega) (by decide)).mono ?_
                  rintro e w5 ⟨⟨A1, c1, he⟩, hst⟩
                  rw [HNO.out.1] at he
                  rw [HNO.out.2] at hst
                  subst he
                  have HSA5 := Lib.hid ((hsa.out.step hst).ext0 (x0 w5 (.cells (msgC msg0 A1 c1) 28)))
                  have HLN5 := Lib.hid (hst.1.ext0 (x0 w5 (.cells (msgC msg0 A1 c1) 28)))
                  clear hst hsa hln c9
                  go_wp2_with fail
                  refine (ln_waiting HLN5.out (xa : Int) (xb : Int) (by unfold I64; omega) (by unfold I64; omega)).mono ?_
                  rintro e w6 ⟨rfl, rfl⟩
                  rw [HWZ.out]
                  go_wp2_with fail
                  go_roundw
                  case rel => exact ⟨xb + 1, m + 1, N, S, cs, by go_num, by omega, by omega, HEM, hor, HSA5, HLN5⟩
                  case measure => simp [intOf]; omega
                · have hlen0 : 0 < (S xa xb).length := List.length_pos_iff.2 he
                  by_cases hko : k < od.length
                  · obtain ⟨ad2, hA2, hc2⟩ := HO.out k (.int .i64 od[k]) (by simp [I8, hko])
                    have dk : wr.cell? (ad2.add k) = some (.int .i64 od[k]) := by
                      obtain ⟨M, C, _, h3, _⟩ := hln.out
                      exact h3.cell hc2 (fun a => a)
                    have hok := HOD.out od[k] (List.getElem_mem hko)
                    obtain ⟨kk, hkk⟩ : ∃ x, x = od[k] := ⟨_, rfl⟩
                    rw [← hkk] at dk hok
                    subst hA2
                    clear hc2 hkk
                    obtain ⟨j, tt, hjt, htw, hor2⟩ := hor.out.some hlta hltb he kk
                    have HNE := Lib.hid (hne_of (hor.out.nd xa xb) hjt)
                    obtain ⟨q, hq, hqf, hqt, hqm⟩ : ∃ q, q = mkM 1 xa xb tt ∧ q.f = xa ∧ q.t = xb ∧ q.tm = tt := ⟨_, rfl, rfl, rfl, rfl⟩
                    rw [← hq] at htw
                    clear hq
                    go_wp2_with fail
                    refine (ln_deliver hln.out (by simp only [maxLen]; omega) (xa : Int) (xb : Int) kk (by unfold I64; omega) (by unfold I64; omega) hok).mono ?_
                    rintro e w5 ⟨⟨A1, c1, he1⟩, hst⟩
                    rw [htw] at he1
                    subst he1
                    have HSA5 := Lib.hid (hsa.out.step hst)
                    have HLN5 := Lib.hid hst.1
                    have HOR5 := Lib.hid hor2
                    clear hst hsa hln hor hor2 htw c9
                    go_wp2_with fail
                    have hjl : j < (S xa xb).length := (List.getElem?_eq_some_iff.1 hjt).1
                    have HMB0 : Hid ((w5.alloc (.cells #[.int .i64 q.k, .int .i64 xa, .int .i64 xb, .int .i64 tt, .int .i64 q.ix, .int .i64 q.at_, .int .i64 q.cm, .bool q.yes, .slice A1 q.es.length c1, .string q.snap] 28)).cell? ⟨w5.heap.size, 3, none⟩ = some (.int .i64 tt)) := Lib.hid (Blk.cell (Blk.new w5 _ _) 3)
                    have HSA6 := Lib.hid (HSA5.out.ext0 (x0 w5 (.cells #[.int .i64 q.k, .int .i64 xa, .int .i64 xb, .int .i64 tt, .int .i64 q.ix, .int .i64 q.at_, .int .i64 q.cm, .bool q.yes, .slice A1 q.es.length c1, .string q.snap] 28)))
                    have HLN6 := Lib.hid (HLN5.out.ext0 (x0 w5 (.cells #[.int .i64 q.k, .int .i64 xa, .int .i64 xb, .int .i64 tt, .int .i64 q.ix, .int .i64 q.at_, .int .i64 q.cm, .bool q.yes, .slice A1 q.es.length c1, .string q.snap] 28)))
                    obtain ⟨mb, hmb0⟩ : ∃ x, x = w5.heap.size := ⟨_, rfl⟩
                    rw [← hmb0] at HMB0 ⊢
                    obtain ⟨S2, hS2⟩ : ∃ x, x = updS S xa xb ((S xa xb).eraseIdx j) := ⟨_, rfl⟩
                    rw [← hS2] at HOR5
                    have HL2 : Hid ((S2 xa xb).length + 1 = (S xa xb).length) := Lib.hid (by rw [hS2]; unfold updS; rw [if_pos ⟨rfl, rfl⟩, List.length_eraseIdx_of_lt hjl]; omega)
                    have HEM2 : Hid (∀ x y, (x < xa ∨ x = xa ∧ y < xb) → y < n → S2 x y = []) := Lib.hid (fun x y h1 h2 => by rw [hS2]; unfold updS; rw [if_neg (by omega)]; exact hem.out x y h1 h2)
                    have HS2 := Lib.hid hS2
                    obtain ⟨N2, hN2⟩ : ∃ x, x = dropN N xa xb kk := ⟨_, rfl⟩
                    rw [← hN2] at HOR5 HLN6
                    clear hS2 hN2 hmb0 HSA5 HLN5 hem hr hrow hrz
                    go_loopw [19, 20] (fun v19 v20 wr => (∃ ii : Nat, v19 = .bool false ∧ v20 = .int .i64 ii ∧ ii ≤ j ∧ Hid (SA w wr b9 cs S) ∧ Hid (LN w (psOf b9 cs) g N2 (m + 1) wr) ∧ Hid (wr.cell? ⟨mb, 3, none⟩ = some (.int .i64 tt))) ∨ (∃ (ii : Nat) (cs2 : List Value), v19 = .bool true ∧ v20 = .int .i64 ii ∧ ii ≤ 61 ∧ Hid (SA w wr b9 cs2 S2) ∧ Hid (LN w (psOf b9 cs2) g N2 (m + 1) wr))) (fun _ v20 _ => j + 1 - (intOf v20).toNat)
                    case atStart => exact .inl ⟨0, rfl, rfl, by omega, HSA6, HLN6, HMB0⟩
                    case round =>
                      clear HSA6 HLN6 HMB0
                      rcases hrel with ⟨ii, rfl, rfl, hii, hsa, hln, hmb⟩ | ⟨ii, cs2, rfl, rfl, hii, hsa, hln⟩
                      · obtain ⟨r, hr, hrow⟩ := hsa.out.row xa xb (by omega) (by omega)
                        have c9 : wr.cell? ⟨b9, xa * 5 + xb, none⟩ = some r := by rw [Blk.cell hsa.out.blk, List.getElem?_toArray]; exact hr
                        obtain ⟨Az, cz, rfl, hcz, _, hrz⟩ := Own.slice hrow
                        obtain ⟨az, rfl⟩ := hrz.some (by rw [I8_length]; omega)
                        have hlen61 : (S xa xb).length ≤ 60 := by omega
                        obtain ⟨tv, htv⟩ : ∃ tv, (S xa xb)[ii]? = some tv := ⟨_, List.getElem?_eq_getElem (by omega)⟩
                        have d7 : wr.cell? (az.add (ii * 1)) = some (.int .i64 tv) := by
                          obtain ⟨ad, e, hc⟩ := hrz ii (.int .i64 tv) (by unfold I8; rw [List.getElem?_map, htv]; rfl)
                          cases e
                          rw [Nat.mul_one]
                          exact hc
                        obtain ⟨l9, hl9⟩ : ∃ x, x = (S xa xb).take ii := ⟨_, rfl⟩
                        obtain ⟨l18, hl18⟩ : ∃ x, x = (S xa xb).drop (ii + 1) := ⟨_, rfl⟩
                        have hn9 : l9.length = ii := by rw [hl9, List.length_take]; omega
                        have hn18 : l18.length = (S xa xb).length - (ii + 1) := by rw [hl18, List.length_drop]
                        obtain ⟨A9, hA9, hcut9⟩ := cut_h (P := Try.prog) 41 3 1 Try.underlying41 infoI64 (some az) (S xa xb).length cz (ii : Int) (by omega) (by omega)
                        obtain ⟨A18, hA18, hcut18⟩ := cut_l (P := Try.prog) 41 3 1 Try.underlying41 infoI64 (some az) (S xa xb).length cz ((ii : Int) + 1) (by omega) (by omega) (by omega)
                        have HR9 : Row wr A9 (I8 l9) := by
                          have := cut_row (lo := 0) (hi := ii) hrz hA9 (by rw [I8_length]; omega)
                          rw [hl9]
                          unfold I8
                          rw [List.map_take]
                          simpa [I8] using this
                        have hA18' : A18 = if cz = ii + 1 then some az else (some az : Option Addr).map (·.add ((ii + 1) * 1)) := by rw [hA18, show ((ii : Int) + 1).toNat = ii + 1 by omega]
                        have HR18 : Row wr A18 (I8 l18) := by
                          have := cut_row (lo := ii + 1) (hi := (S xa xb).length) (size := 1) (c := cz) hrz hA18' (by rw [I8_length]; omega)
                          rw [hl18]
                          unfold I8
                          rw [List.map_drop]
                          rw [List.take_of_length_le (by rw [I8_length]; omega)] at this
                          simpa [I8] using this
                        rw [show (ii : Int).toNat = l9.length by omega] at hcut9
                        rw [show (S xa xb).length - ((ii : Int) + 1).toNat = l18.length by omega] at hcut18
                        obtain ⟨c18, hc18⟩ : ∃ x, x = cz - ((ii : Int) + 1).toNat := ⟨_, rfl⟩
                        rw [← hc18] at hcut18
                        have HTV : Hid ((S xa xb)[ii]? = some tv) := Lib.hid htv
                        have HLL : Hid (l9 ++ l18 = (S xa xb).eraseIdx ii) := Lib.hid (by rw [hl9, hl18, List.eraseIdx_eq_take_drop_succ])
                        have hr := Lib.hid hr
                        obtain ⟨sz, hsz⟩ : ∃ x, x = (S xa xb).length := ⟨_, rfl⟩
                        rw [← hsz] at c9 hn18 hcz hlen61 hjl hcut9 hcut18
                        have hrr : Hid (cs[xa * 5 + xb]? = some (.slice (some az) sz cz)) := Lib.hid (by rw [hsz]; exact hr.out)
                        clear htv hl9 hl18 hA9 hA18' hA18 hrow hrz hc18 hr
                        have HCUT := Lib.hid (And.intro hcut9 (And.intro HR9 (And.intro hcut18 HR18)))
                        clear hcut9 hcut18 HR9 HR18
                        go_wp2_with fail
                        by_cases hij : ii = j
                        · obtain rfl : tt = tv := by
                            have h1 := HTV.out
                            rw [hij, hjt] at h1
                            exact (Option.some.inj h1)
                          refine wp_region_mem [sv _, sv _, sv (.pointer (some ⟨b9, xa * 5, none⟩)), sv (.pointer (some ⟨b9, xa * 5 + xb, none⟩)), sv (.slice (some az) sz cz), sv _, sv (.pointer (some (az.add (ii * 1)))), sv (.int .i64 tt), sv _, sv (.int .i64 tt), sv (.bool true)] (by kernel_rfl) rfl rfl rfl rfl ⟨
                            (by
                              intro Lq aq wq hd hj Kq hK
                              rw [if_pos (wanted_none rfl)]
                              have f13 := hj.base 13 rfl rfl
                              exact opMove hK rfl (ev f13) rfl),
                            (by
                              intro Lq aq wq hd hj Kq hK
                              rw [if_pos (wanted_none rfl)]
                              have f14 := hj.base 14 rfl rfl
                              exact opMove hK rfl (ev f14) rfl),
                            (by
                              intro Lq aq wq hd hj Kq hK
                              rw [if_pos (wanted_none rfl)]
                              have f9 := hj.base 9 rfl rfl
                              have f161 := hj.val 0 161 rfl rfl (by simp) rfl (hd ⟨0, .data⟩ (by simp) rfl)
                              exact opIndexArr hK rfl (j := xa * 5) (sz := 5) (len := 5) (ev f9) (ev f161) Try.underlying44 (by kernel_rfl) (by omega) (by omega) (by simp) rfl),
                            (by
                              intro Lq aq wq hd hj Kq hK
                              rw [if_pos (wanted_none rfl)]
                              have f163 := hj.val 2 163 rfl rfl (by simp) rfl (hd ⟨2, .data⟩ (by simp) rfl)
                              have f162 := hj.val 1 162 rfl rfl (by simp) rfl (hd ⟨1, .data⟩ (by simp) rfl)
                              exact opIndexArr hK rfl (j := xa * 5 + xb) (sz := 1) (len := 5) (ev f163) (ev f162) Try.underlying43 (by kernel_rfl) (by omega) (by omega) (by simp) rfl),
                            (by
                              intro Lq aq wq hd hj Kq hK
                              rw [if_pos (wanted_none rfl)]
                              have f164 := hj.val 3 164 rfl rfl (by simp) rfl (hd ⟨3, .data⟩ (by simp) rfl)
                              exact opLoad hK rfl (ev f164) Try.underlying41 rfl (Ext.cell ((Ext.refl None_ wr).drew.trans0 hj.ext) c9 (fun a => a)) rfl),
                            (by
                              intro Lq aq wq hd hj Kq hK
                              rw [if_pos (wanted_none rfl)]
                              have f20 := hj.base 20 rfl rfl
                              exact opMove hK rfl (ev f20) rfl),
                            (by
                              intro Lq aq wq hd hj Kq hK
                              rw [if_pos (wanted_none rfl)]
                              have f165 := hj.val 4 165 rfl rfl (by simp) rfl (hd ⟨4, .data⟩ (by simp) rfl)
                              have f166 := hj.val 5 166 rfl rfl (by simp) rfl (hd ⟨5, .data⟩ (by simp) rfl)
                              exact opIndex hK rfl (k := .i64) (i := (ii : Int)) (ev f165) (ev f166) Try.underlying41 intSz1 (by omega) (by omega) (congrArg (fun z => Value.pointer (some (az.add (z * 1)))) (by omega))),
                            (by
                              intro Lq aq wq hd hj Kq hK
                              rw [if_pos (wanted_none rfl)]
                              have f167 := hj.val 6 167 rfl rfl (by simp) rfl (hd ⟨6, .data⟩ (by simp) rfl)
                              exact opLoad hK rfl (ev f167) Try.underlying3 rfl (Ext.cell ((Ext.refl None_ wr).drew.trans0 hj.ext) d7 (fun a => a)) rfl),
                            (by
                              intro Lq aq wq hd hj Kq hK
                              rw [if_pos (wanted_none rfl)]
                              have f17 := hj.base 17 rfl rfl
                              exact opFieldA hK rfl (k := 3) (ev f17) (fun W => by kernel_rfl) rfl),
                            (by
                              intro Lq aq wq hd hj Kq hK
                              rw [if_pos (wanted_none rfl)]
                              have f169 := hj.val 8 169 rfl rfl (by simp) rfl (hd ⟨8, .data⟩ (by simp) rfl)
                              exact opLoad hK rfl (ev f169) Try.underlying3 rfl (Ext.cell ((Ext.refl None_ wr).drew.trans0 hj.ext) hmb.out (fun a => a)) rfl),
                            (by
                              intro Lq aq wq hd hj Kq hK
                              rw [if_pos (wanted_none rfl)]
                              have f168 := hj.val 7 168 rfl rfl (by simp) rfl (hd ⟨7, .data⟩ (by simp) rfl)
                              have f170 := hj.val 9 170 rfl rfl (by simp) rfl (hd ⟨9, .data⟩ (by simp) rfl)
                              exact opBin hK rfl (ev f168) (ev f170) (guardInt _ _ _ _ _ _ _ _ _) (binEqInt _ _ _ _ _) (congrArg Value.bool (by first | rfl | assumption | (simp; omega) | (simp [*]; done)))),
                            trivial⟩ ?fin
                          case fin =>
                            intro vs w3 hx hg
                            have v10 : vs 10 = _ := hg 10 (by decide)
                            have HX2 := Lib.hid ((Ext.refl None_ wr).drew.trans0 hx)
                            clear hx hg d7
                            simp only [putAll, v10, Nat.reduceAdd, Nat.zero_add]
                            simp only [Act.put, List.setIfInBounds_toArray, List.set_cons_succ, List.set_cons_zero]
                            have HSAw := Lib.hid (hsa.out.ext0 HX2.out)
                            have HLNw := Lib.hid (hln.out.ext0 HX2.out)
                            have c9 := Ext.cell HX2.out c9 (fun a => a)
                            have HC9 : Hid ((∀ W : World, (Instr.slice 41 (.slice (some az) sz cz) none (some (.int .i64 (ii : Int))) none).run Try.prog W = .ok (.slice A9 l9.length cz) W) ∧ Row w3 A9 (I8 l9)) := Lib.hid ⟨HCUT.out.1, HCUT.out.2.1.ext0 HX2.out⟩
                            have HC18 : Hid ((∀ W : World, (Instr.slice 41 (.slice (some az) sz cz) (some (.int .i64 ((ii : Int) + 1))) none none).run Try.prog W = .ok (.slice A18 l18.length c18) W) ∧ Row w3 A18 (I8 l18)) := Lib.hid ⟨HCUT.out.2.2.1, HCUT.out.2.2.2.ext0 HX2.out⟩
                            have HPUT := Lib.hid (fun (W1 : World) (r' : Value) (hx1 : Ext None_ w3 W1) (ho : Own W1 3 1 (fun k => w3.heap.size ≤ k) r' (l9 ++ l18).length (I8 (l9 ++ l18))) => put_fin HSAw.out HLNw.out (by omega) (by omega) hrr.out (hx1.mono (fun _ _ a => a.elim)) (ho.mono (fun k _ e => .inr e)))
                            have HS3 : Hid (updS S xa xb (l9 ++ l18) = S2) := Lib.hid (by rw [HLL.out, HS2.out, hij])
                            clear hsa hln hmb HX2 hrr HCUT HLL HTV
                            go_wp2_with fail
                            refine wp_region_chain [10, 19, 22] [(0, 2), (0, 2), (0, 0), (0, 0), (0, 0), (0, 0), (0, 0), (0, 0), (0, 0), (0, 0), (0, 1), (0, 1), (0, 1), (0, 1), (0, 1), (0, 1), (0, 1), (0, 1), (0, 1), (1, 2), (0, 2), (0, 2), (2, 3)] (SP5 w3 b9) [⟨fun W => Ext None_ w3 W, fun _ _ h hx => h.trans0 hx⟩, ⟨fun W => Ext None_ w3 W, fun _ _ h hx => h.trans0 hx⟩, ⟨fun W => Ext None_ w3 W, fun _ _ h hx => h.trans0 hx⟩, ⟨fun W => PutP w b9 g N2 (m + 1) cs S xa xb (l9 ++ l18) W, fun _ _ h hx => h.ext0 hx⟩] [cv _, cv _, cOw w3 b9 0 [], cv _, cv _, cv (.pointer (some ⟨b9, xa * 5, none⟩)), cv (.pointer (some ⟨b9, xa * 5 + xb, none⟩)), cv (.slice (some az) sz cz), cv _, cv (.slice A9 l9.length cz), cOw w3 b9 1 l9, cv _, cv _, cv (.pointer (some ⟨b9, xa * 5, none⟩)), cv (.pointer (some ⟨b9, xa * 5 + xb, none⟩)), cv (.slice (some az) sz cz), cv _, cv (.int .i64 ((ii : Int) + 1)), cv (.slice A18 l18.length c18), cOw w3 b9 2 (l9 ++ l18), cv (.pointer (some ⟨b9, xa * 5, none⟩)), cv (.pointer (some ⟨b9, xa * 5 + xb, none⟩)), cAny] (by kernel_rfl) rfl rfl rfl rfl rfl rfl rfl rfl (((Ext.refl None_ w3).drew : Ext None_ w3 w3.drew)) ⟨
                              (by
                                intro Lq aq wq kq hd hj hlo hhi Kq hK
                                rw [if_pos (wanted_none rfl)]
                                have f13 := hj.base 13 rfl rfl
                                exact opMove hK rfl (ev f13) rfl),
                              (by
                                intro Lq aq wq kq hd hj hlo hhi Kq hK
                                rw [if_pos (wanted_none rfl)]
                                have f14 := hj.base 14 rfl rfl
                                exact opMove hK rfl (ev f14) rfl),
                              (by
                                intro Lq aq wq kq hd hj hlo hhi Kq hK
                                rw [if_pos (wanted_none rfl)]
                                obtain rfl : kq = 0 := Nat.le_antisymm hhi (Nat.zero_le _)
                                have hxq : Ext None_ w3 wq := hj.inv
                                exact opSlice hK rfl (ps := #[]) (by simp) int_slice0 ⟨Nat.le_refl _, fun _ => (Own.full wq #[] 0 (by simp [maxLen]) rfl).mono (fun k _ e => by have := Ext.size hxq; omega)⟩),
                              (by
                                intro Lq aq wq kq hd hj hlo hhi Kq hK
                                rw [if_pos (wanted_none rfl)]
                                have f13 := hj.base 13 rfl rfl
                                exact opMove hK rfl (ev f13) rfl),
                              (by
                                intro Lq aq wq kq hd hj hlo hhi Kq hK
                                rw [if_pos (wanted_none rfl)]
                                have f14 := hj.base 14 rfl rfl
                                exact opMove hK rfl (ev f14) rfl),
                              (by
                                intro Lq aq wq kq hd hj hlo hhi Kq hK
                                rw [if_pos (wanted_none rfl)]
                                have f9 := hj.base 9 rfl rfl
                                have f175 := hj.val 3 175 rfl rfl (by simp) rfl (hd ⟨3, .data⟩ (by simp) rfl)
                                exact opIndexArr hK rfl (j := xa * 5) (sz := 5) (len := 5) (ev f9) (ev f175) Try.underlying44 (by kernel_rfl) (by omega) (by omega) (by simp) rfl),
                              (by
                                intro Lq aq wq kq hd hj hlo hhi Kq hK
                                rw [if_pos (wanted_none rfl)]
                                have f177 := hj.val 5 177 rfl rfl (by simp) rfl (hd ⟨5, .data⟩ (by simp) rfl)
                                have f176 := hj.val 4 176 rfl rfl (by simp) rfl (hd ⟨4, .data⟩ (by simp) rfl)
                                exact opIndexArr hK rfl (j := xa * 5 + xb) (sz := 1) (len := 5) (ev f177) (ev f176) Try.underlying43 (by kernel_rfl) (by omega) (by omega) (by simp) rfl),
                              (by
                                intro Lq aq wq kq hd hj hlo hhi Kq hK
                                rw [if_pos (wanted_none rfl)]
                                have f178 := hj.val 6 178 rfl rfl (by simp) rfl (hd ⟨6, .data⟩ (by simp) rfl)
                                obtain rfl : kq = 0 := Nat.le_antisymm hhi (Nat.zero_le _)
                                have hxq : Ext None_ w3 wq := hj.inv
                                exact opLoad hK rfl (ev f178) Try.underlying41 rfl (Ext.cell hxq c9 (fun a => a)) rfl),
                              (by
                                intro Lq aq wq kq hd hj hlo hhi Kq hK
                                rw [if_pos (wanted_none rfl)]
                                have f20 := hj.base 20 rfl rfl
                                exact opMove hK rfl (ev f20) rfl),
                              (by
                                intro Lq aq wq kq hd hj hlo hhi Kq hK
                                rw [if_pos (wanted_none rfl)]
                                have f179 := hj.val 7 179 rfl rfl (by simp) rfl (hd ⟨7, .data⟩ (by simp) rfl)
                                have f180 := hj.val 8 180 rfl rfl (by simp) rfl (hd ⟨8, .data⟩ (by simp) rfl)
                                exact opSliceOp hK rfl (ev f179) rfl (by simp [ev f180]) rfl Try.underlying41 HC9.out.1 rfl),
                              (by
                                intro Lq aq wq hd hj Kq hK
                                rw [if_pos (wanted_none rfl)]
                                obtain ⟨u174, f174, g174⟩ := hj.at_ 2 174 rfl rfl (by simp) (hd ⟨2, .data⟩ (by simp) rfl)
                                have f181 := hj.val 9 181 rfl rfl (by simp) rfl (hd ⟨9, .data⟩ (by simp) rfl)
                                have hxq : Ext None_ w3 wq := hj.inv
                                have hown := g174.2 (Nat.le_refl _)
                                exact wpAppI _ _ rfl _ u174 [] (ev f174) hown _ cz l9 (ev f181) (HC9.out.2.ext0 hxq) (by simp; omega) (fun v' w' h1 h2 => hK v' w' ⟨Nat.le_refl _, fun _ => h1.mono (fun k _ e => e.elim (fun e => hown.blk k e) (fun e => Nat.le_trans (Ext.size hxq) e))⟩ (hxq.trans h2 (fun k hk e => absurd (hown.blk k e) (Nat.not_le.2 hk))) (h2.mono (fun k _ e => .inl ⟨by decide, hown.blk k e⟩)))),
                              (by
                                intro Lq aq wq kq hd hj hlo hhi Kq hK
                                rw [if_pos (wanted_none rfl)]
                                have f13 := hj.base 13 rfl rfl
                                exact opMove hK rfl (ev f13) rfl),
                              (by
                                intro Lq aq wq kq hd hj hlo hhi Kq hK
                                rw [if_pos (wanted_none rfl)]
                                have f14 := hj.base 14 rfl rfl
                                exact opMove hK rfl (ev f14) rfl),
                              (by
                                intro Lq aq wq kq hd hj hlo hhi Kq hK
                                rw [if_pos (wanted_none rfl)]
                                have f9 := hj.base 9 rfl rfl
                                have f183 := hj.val 11 183 rfl rfl (by simp) rfl (hd ⟨11, .data⟩ (by simp) rfl)
                                exact opIndexArr hK rfl (j := xa * 5) (sz := 5) (len := 5) (ev f9) (ev f183) Try.underlying44 (by kernel_rfl) (by omega) (by omega) (by simp) rfl),
                              (by
                                intro Lq aq wq kq hd hj hlo hhi Kq hK
                                rw [if_pos (wanted_none rfl)]
                                have f185 := hj.val 13 185 rfl rfl (by simp) rfl (hd ⟨13, .data⟩ (by simp) rfl)
                                have f184 := hj.val 12 184 rfl rfl (by simp) rfl (hd ⟨12, .data⟩ (by simp) rfl)
                                exact opIndexArr hK rfl (j := xa * 5 + xb) (sz := 1) (len := 5) (ev f185) (ev f184) Try.underlying43 (by kernel_rfl) (by omega) (by omega) (by simp) rfl),
                              (by
                                intro Lq aq wq kq hd hj hlo hhi Kq hK
                                rw [if_pos (wanted_none rfl)]
                                have f186 := hj.val 14 186 rfl rfl (by simp) rfl (hd ⟨14, .data⟩ (by simp) rfl)
                                have hxq : Ext None_ w3 wq := by
                                  have hh : kq ≤ 1 := hhi
                                  rcases (show kq = 0 ∨ kq = 1 by omega) with rfl | rfl <;> exact hj.inv
                                exact opLoad hK rfl (ev f186) Try.underlying41 rfl (Ext.cell hxq c9 (fun a => a)) rfl),
                              (by
                                intro Lq aq wq kq hd hj hlo hhi Kq hK
                                rw [if_pos (wanted_none rfl)]
                                have f20 := hj.base 20 rfl rfl
                                exact opMove hK rfl (ev f20) rfl),
                              (by
                                intro Lq aq wq kq hd hj hlo hhi Kq hK
                                rw [if_pos (wanted_none rfl)]
                                have f188 := hj.val 16 188 rfl rfl (by simp) rfl (hd ⟨16, .data⟩ (by simp) rfl)
                                exact opBin hK rfl (ev f188) rfl (guardInt _ _ _ _ _ _ _ _ _) (binAdd _ _ _ _ (IntWalk.i64_in _ (by omega))) rfl),
                              (by
                                intro Lq aq wq kq hd hj hlo hhi Kq hK
                                rw [if_pos (wanted_none rfl)]
                                have f187 := hj.val 15 187 rfl rfl (by simp) rfl (hd ⟨15, .data⟩ (by simp) rfl)
                                have f189 := hj.val 17 189 rfl rfl (by simp) rfl (hd ⟨17, .data⟩ (by simp) rfl)
                                exact opSliceOp hK rfl (ev f187) (by simp [ev f189]) rfl rfl Try.underlying41 HC18.out.1 rfl),
                              (by
                                intro Lq aq wq hd hj Kq hK
                                rw [if_pos (wanted_none rfl)]
                                obtain ⟨u182, f182, g182⟩ := hj.at_ 10 182 rfl rfl (by simp) (hd ⟨10, .data⟩ (by simp) rfl)
                                have f190 := hj.val 18 190 rfl rfl (by simp) rfl (hd ⟨18, .data⟩ (by simp) rfl)
                                have hxq : Ext None_ w3 wq := hj.inv
                                have hown := g182.2 (Nat.le_refl _)
                                exact wpAppI _ _ rfl _ u182 l9 (ev f182) hown _ c18 l18 (ev f190) (HC18.out.2.ext0 hxq) (by omega) (fun v' w' h1 h2 => hK v' w' ⟨Nat.le_refl _, fun _ => h1.mono (fun k _ e => e.elim (fun e => hown.blk k e) (fun e => Nat.le_trans (Ext.size hxq) e))⟩ (hxq.trans h2 (fun k hk e => absurd (hown.blk k e) (Nat.not_le.2 hk))) (h2.mono (fun k _ e => .inl ⟨by decide, hown.blk k e⟩)))),
                              (by
                                intro Lq aq wq kq hd hj hlo hhi Kq hK
                                rw [if_pos (wanted_none rfl)]
                                have f9 := hj.base 9 rfl rfl
                                have f172 := hj.val 0 172 rfl rfl (by simp) rfl (hd ⟨0, .data⟩ (by simp) rfl)
                                exact opIndexArr hK rfl (j := xa * 5) (sz := 5) (len := 5) (ev f9) (ev f172) Try.underlying44 (by kernel_rfl) (by omega) (by omega) (by simp) rfl),
                              (by
                                intro Lq aq wq kq hd hj hlo hhi Kq hK
                                rw [if_pos (wanted_none rfl)]
                                have f192 := hj.val 20 192 rfl rfl (by simp) rfl (hd ⟨20, .data⟩ (by simp) rfl)
                                have f173 := hj.val 1 173 rfl rfl (by simp) rfl (hd ⟨1, .data⟩ (by simp) rfl)
                                exact opIndexArr hK rfl (j := xa * 5 + xb) (sz := 1) (len := 5) (ev f192) (ev f173) Try.underlying43 (by kernel_rfl) (by omega) (by omega) (by simp) rfl),
                              (by
                                intro Lq aq wq hd hj Kq hK
                                rw [if_pos (wanted_none rfl)]
                                have f193 := hj.val 21 193 rfl rfl (by simp) rfl (hd ⟨21, .data⟩ (by simp) rfl)
                                obtain ⟨u191, f191, g191⟩ := hj.at_ 19 191 rfl rfl (by simp) (hd ⟨19, .data⟩ (by simp) rfl)
                                have hxq : Ext None_ w3 wq := hj.inv
                                have ho := g191.2 (Nat.le_refl _)
                                obtain ⟨p1, p2, p3, p4, p5⟩ := HPUT.out wq u191 hxq ho
                                exact opStoreC hK rfl (ev f193) (ev f191) p4 p5 (by kernel_rfl) p1 p2 trivial p3 ((Ext.refl _ _).setCell (.inl (.inr ⟨rfl, rfl⟩)) _)),
                              trivial⟩ ?fin
                            case fin =>
                              intro vs w4 hI hg
                              have hI : PutP w b9 g N2 (m + 1) cs S xa xb (l9 ++ l18) w4 := hI
                              obtain ⟨r', h1, h2⟩ := hI
                              rw [HS3.out] at h1
                              have HSA3 := Lib.hid h1
                              have HLN3 := Lib.hid h2
                              clear hg h1 h2 c9 HPUT HC9 HC18 HSAw HLNw HS3
                              simp only [putAll, Nat.reduceAdd, Nat.zero_add]
                              simp only [Act.put, List.setIfInBounds_toArray, List.set_cons_succ, List.set_cons_zero]
                              go_wp2_with fail
                              go_roundw
                              case rel => exact .inr ⟨ii + 1, _, rfl, by go_num, by omega, HSA3, HLN3⟩
                              case measure => simp [intOf]; omega
                        · have hne : tv ≠ tt := HNE.out ii (by omega) tv HTV.out
                          refine wp_region_mem [sv _, sv _, sv (.pointer (some ⟨b9, xa * 5, none⟩)), sv (.pointer (some ⟨b9, xa * 5 + xb, none⟩)), sv (.slice (some az) sz cz), sv _, sv (.pointer (some (az.add (ii * 1)))), sv (.int .i64 tv), sv _, sv (.int .i64 tt), sv (.bool false)] (by kernel_rfl) rfl rfl rfl rfl ⟨
                            (by
                              intro Lq aq wq hd hj Kq hK
                              rw [if_pos (wanted_none rfl)]
                              have f13 := hj.base 13 rfl rfl
                              exact opMove hK rfl (ev f13) rfl),
                            (by
                              intro Lq aq wq hd hj Kq hK
                              rw [if_pos (wanted_none rfl)]
                              have f14 := hj.base 14 rfl rfl
                              exact opMove hK rfl (ev f14) rfl),
                            (by
                              intro Lq aq wq hd hj Kq hK
                              rw [if_pos (wanted_none rfl)]
                              have f9 := hj.base 9 rfl rfl
                              have f161 := hj.val 0 161 rfl rfl (by simp) rfl (hd ⟨0, .data⟩ (by simp) rfl)
                              exact opIndexArr hK rfl (j := xa * 5) (sz := 5) (len := 5) (ev f9) (ev f161) Try.underlying44 (by kernel_rfl) (by omega) (by omega) (by simp) rfl),
                            (by
                              intro Lq aq wq hd hj Kq hK
                              rw [if_pos (wanted_none rfl)]
                              have f163 := hj.val 2 163 rfl rfl (by simp) rfl (hd ⟨2, .data⟩ (by simp) rfl)
                              have f162 := hj.val 1 162 rfl rfl (by simp) rfl (hd ⟨1, .data⟩ (by simp) rfl)
                              exact opIndexArr hK rfl (j := xa * 5 + xb) (sz := 1) (len := 5) (ev f163) (ev f162) Try.underlying43 (by kernel_rfl) (by omega) (by omega) (by simp) rfl),
                            (by
                              intro Lq aq wq hd hj Kq hK
                              rw [if_pos (wanted_none rfl)]
                              have f164 := hj.val 3 164 rfl rfl (by simp) rfl (hd ⟨3, .data⟩ (by simp) rfl)
                              exact opLoad hK rfl (ev f164) Try.underlying41 rfl (Ext.cell ((Ext.refl None_ wr).drew.trans0 hj.ext) c9 (fun a => a)) rfl),
                            (by
                              intro Lq aq wq hd hj Kq hK
                              rw [if_pos (wanted_none rfl)]
                              have f20 := hj.base 20 rfl rfl
                              exact opMove hK rfl (ev f20) rfl),
                            (by
                              intro Lq aq wq hd hj Kq hK
                              rw [if_pos (wanted_none rfl)]
                              have f165 := hj.val 4 165 rfl rfl (by simp) rfl (hd ⟨4, .data⟩ (by simp) rfl)
                              have f166 := hj.val 5 166 rfl rfl (by simp) rfl (hd ⟨5, .data⟩ (by simp) rfl)
                              exact opIndex hK rfl (k := .i64) (i := (ii : Int)) (ev f165) (ev f166) Try.underlying41 intSz1 (by omega) (by omega) (congrArg (fun z => Value.pointer (some (az.add (z * 1)))) (by omega))),
                            (by
                              intro Lq aq wq hd hj Kq hK
                              rw [if_pos (wanted_none rfl)]
                              have f167 := hj.val 6 167 rfl rfl (by simp) rfl (hd ⟨6, .data⟩ (by simp) rfl)
                              exact opLoad hK rfl (ev f167) Try.underlying3 rfl (Ext.cell ((Ext.refl None_ wr).drew.trans0 hj.ext) d7 (fun a => a)) rfl),
                            (by
                              intro Lq aq wq hd hj Kq hK
                              rw [if_pos (wanted_none rfl)]
                              have f17 := hj.base 17 rfl rfl
                              exact opFieldA hK rfl (k := 3) (ev f17) (fun W => by kernel_rfl) rfl),
                            (by
                              intro Lq aq wq hd hj Kq hK
                              rw [if_pos (wanted_none rfl)]
                              have f169 := hj.val 8 169 rfl rfl (by simp) rfl (hd ⟨8, .data⟩ (by simp) rfl)
                              exact opLoad hK rfl (ev f169) Try.underlying3 rfl (Ext.cell ((Ext.refl None_ wr).drew.trans0 hj.ext) hmb.out (fun a => a)) rfl),
                            (by
                              intro Lq aq wq hd hj Kq hK
                              rw [if_pos (wanted_none rfl)]
                              have f168 := hj.val 7 168 rfl rfl (by simp) rfl (hd ⟨7, .data⟩ (by simp) rfl)
                              have f170 := hj.val 9 170 rfl rfl (by simp) rfl (hd ⟨9, .data⟩ (by simp) rfl)
                              exact opBin hK rfl (ev f168) (ev f170) (guardInt _ _ _ _ _ _ _ _ _) (binEqInt _ _ _ _ _) (congrArg Value.bool (by first | rfl | assumption | (simp; omega) | (simp [*]; done)))),
                            trivial⟩ ?fin
                          case fin =>
                            intro vs w3 hx hg
                            have v10 : vs 10 = _ := hg 10 (by decide)
                            have HX2 := Lib.hid ((Ext.refl None_ wr).drew.trans0 hx)
                            clear hx hg d7
                            simp only [putAll, v10, Nat.reduceAdd, Nat.zero_add]
                            simp only [Act.put, List.setIfInBounds_toArray, List.set_cons_succ, List.set_cons_zero]
                            have HSAw := Lib.hid (hsa.out.ext0 HX2.out)
                            have HLNw := Lib.hid (hln.out.ext0 HX2.out)
                            have HMBw := Lib.hid (Ext.cell HX2.out hmb.out (fun a => a))
                            clear hsa hln hmb HX2 hrr HCUT HLL HTV c9
                            go_wp2_with fail
                            go_roundw
                            case rel => exact .inl ⟨ii + 1, rfl, by go_num, by omega, HSAw, HLNw, HMBw⟩
                            case measure => simp [intOf]; omega
                      · obtain ⟨r, hr, hrow⟩ := hsa.out.row xa xb (by omega) (by omega)
                        have c9 : wr.cell? ⟨b9, xa * 5 + xb, none⟩ = some r := by rw [Blk.cell hsa.out.blk, List.getElem?_toArray]; exact hr
                        obtain ⟨Az, cz, rfl, hcz, hcm2, _⟩ := Own.slice hrow
                        have hL2 := HL2.out
                        clear hr hrow
                        obtain ⟨L2, hL2e⟩ : ∃ x, x = (S2 xa xb).length := ⟨_, rfl⟩
                        rw [← hL2e] at c9 hL2 hcz
                        have HL3 := Lib.hid hL2e
                        clear hL2e
                        by_cases hlt : ii < L2
                        · go_wp2_with fail
                          go_roundw
                          case rel => exact ⟨k + 1, m + 1, N2, S2, cs2, by go_num, by rw [← HL3.out]; omega, by rw [← HL3.out]; omega, HEM2, HOR5, hsa, hln⟩
                          case measure => simp [intOf]; omega
                        · go_wp2_with fail
                          go_roundw
                          case rel => exact ⟨k + 1, m + 1, N2, S2, cs2, by go_num, by rw [← HL3.out]; omega, by rw [← HL3.out]; omega, HEM2, HOR5, hsa, hln⟩
                          case measure => simp [intOf]; omega
                  · obtain ⟨j, tt, hjt, htw, hor2⟩ := hor.out.some hlta hltb he (k : Int)
                    have HNE := Lib.hid (hne_of (hor.out.nd xa xb) hjt)
                    obtain ⟨q, hq, hqf, hqt, hqm⟩ : ∃ q, q = mkM 1 xa xb tt ∧ q.f = xa ∧ q.t = xb ∧ q.tm = tt := ⟨_, rfl, rfl, rfl, rfl⟩
                    rw [← hq] at htw
                    clear hq
                    go_wp2_with fail
                    refine (ln_deliver hln.out (by simp only [maxLen]; omega) (xa : Int) (xb : Int) (k : Int) (by unfold I64; omega) (by unfold I64; omega) (by unfold I64; omega)).mono ?_
                    rintro e w5 ⟨⟨A1, c1, he1⟩, hst⟩
                    rw [htw] at he1
                    subst he1
                    have HSA5 := Lib.hid (hsa.out.step hst)
                    have HLN5 := Lib.hid hst.1
                    have HOR5 := Lib.hid hor2
                    clear hst hsa hln hor hor2 htw c9
                    go_wp2_with fail
                    have hjl : j < (S xa xb).length := (List.getElem?_eq_some_iff.1 hjt).1
                    have HMB0 : Hid ((w5.alloc (.cells #[.int .i64 q.k, .int .i64 xa, .int .i64 xb, .int .i64 tt, .int .i64 q.ix, .int .i64 q.at_, .int .i64 q.cm, .bool q.yes, .slice A1 q.es.length c1, .string q.snap] 28)).cell? ⟨w5.heap.size, 3, none⟩ = some (.int .i64 tt)) := Lib.hid (Blk.cell (Blk.new w5 _ _) 3)
                    have HSA6 := Lib.hid (HSA5.out.ext0 (x0 w5 (.cells #[.int .i64 q.k, .int .i64 xa, .int .i64 xb, .int .i64 tt, .int .i64 q.ix, .int .i64 q.at_, .int .i64 q.cm, .bool q.yes, .slice A1 q.es.length c1, .string q.snap] 28)))
                    have HLN6 := Lib.hid (HLN5.out.ext0 (x0 w5 (.cells #[.int .i64 q.k, .int .i64 xa, .int .i64 xb, .int .i64 tt, .int .i64 q.ix, .int .i64 q.at_, .int .i64 q.cm, .bool q.yes, .slice A1 q.es.length c1, .string q.snap] 28)))
                    obtain ⟨mb, hmb0⟩ : ∃ x, x = w5.heap.size := ⟨_, rfl⟩
                    rw [← hmb0] at HMB0 ⊢
                    obtain ⟨S2, hS2⟩ : ∃ x, x = updS S xa xb ((S xa xb).eraseIdx j) := ⟨_, rfl⟩
                    rw [← hS2] at HOR5
                    have HL2 : Hid ((S2 xa xb).length + 1 = (S xa xb).length) := Lib.hid (by rw [hS2]; unfold updS; rw [if_pos ⟨rfl, rfl⟩, List.length_eraseIdx_of_lt hjl]; omega)
                    have HEM2 : Hid (∀ x y, (x < xa ∨ x = xa ∧ y < xb) → y < n → S2 x y = []) := Lib.hid (fun x y h1 h2 => by rw [hS2]; unfold updS; rw [if_neg (by omega)]; exact hem.out x y h1 h2)
                    have HS2 := Lib.hid hS2
                    obtain ⟨N2, hN2⟩ : ∃ x, x = dropN N xa xb (k : Int) := ⟨_, rfl⟩
                    rw [← hN2] at HOR5 HLN6
                    clear hS2 hN2 hmb0 HSA5 HLN5 hem hr hrow hrz
                    go_loopw [19, 20] (fun v19 v20 wr => (∃ ii : Nat, v19 = .bool false ∧ v20 = .int .i64 ii ∧ ii ≤ j ∧ Hid (SA w wr b9 cs S) ∧ Hid (LN w (psOf b9 cs) g N2 (m + 1) wr) ∧ Hid (wr.cell? ⟨mb, 3, none⟩ = some (.int .i64 tt))) ∨ (∃ (ii : Nat) (cs2 : List Value), v19 = .bool true ∧ v20 = .int .i64 ii ∧ ii ≤ 61 ∧ Hid (SA w wr b9 cs2 S2) ∧ Hid (LN w (psOf b9 cs2) g N2 (m + 1) wr))) (fun _ v20 _ => j + 1 - (intOf v20).toNat)
                    case atStart => exact .inl ⟨0, rfl, rfl, by omega, HSA6, HLN6, HMB0⟩
                    case round =>
                      clear HSA6 HLN6 HMB0
                      rcases hrel with ⟨ii, rfl, rfl, hii, hsa, hln, hmb⟩ | ⟨ii, cs2, rfl, rfl, hii, hsa, hln⟩
                      · obtain ⟨r, hr, hrow⟩ := hsa.out.row xa xb (by omega) (by omega)
                        have c9 : wr.cell? ⟨b9, xa * 5 + xb, none⟩ = some r := by rw [Blk.cell hsa.out.blk, List.getElem?_toArray]; exact hr
                        obtain ⟨Az, cz, rfl, hcz, _, hrz⟩ := Own.slice hrow
                        obtain ⟨az, rfl⟩ := hrz.some (by rw [I8_length]; omega)
                        have hlen61 : (S xa xb).length ≤ 60 := by omega
                        obtain ⟨tv, htv⟩ : ∃ tv, (S xa xb)[ii]? = some tv := ⟨_, List.getElem?_eq_getElem (by omega)⟩
                        have d7 : wr.cell? (az.add (ii * 1)) = some (.int .i64 tv) := by
                          obtain ⟨ad, e, hc⟩ := hrz ii (.int .i64 tv) (by unfold I8; rw [List.getElem?_map, htv]; rfl)
                          cases e
                          rw [Nat.mul_one]
                          exact hc
                        obtain ⟨l9, hl9⟩ : ∃ x, x = (S xa xb).take ii := ⟨_, rfl⟩
                        obtain ⟨l18, hl18⟩ : ∃ x, x = (S xa xb).drop (ii + 1) := ⟨_, rfl⟩
                        have hn9 : l9.length = ii := by rw [hl9, List.length_take]; omega
                        have hn18 : l18.length = (S xa xb).length - (ii + 1) := by rw [hl18, List.length_drop]
                        obtain ⟨A9, hA9, hcut9⟩ := cut_h (P := Try.prog) 41 3 1 Try.underlying41 infoI64 (some az) (S xa xb).length cz (ii : Int) (by omega) (by omega)
                        obtain ⟨A18, hA18, hcut18⟩ := cut_l (P := Try.prog) 41 3 1 Try.underlying41 infoI64 (some az) (S xa xb).length cz ((ii : Int) + 1) (by omega) (by omega) (by omega)
                        have HR9 : Row wr A9 (I8 l9) := by
                          have := cut_row (lo := 0) (hi := ii) hrz hA9 (by rw [I8_length]; omega)
                          rw [hl9]
                          unfold I8
                          rw [List.map_take]
                          simpa [I8] using this
                        have hA18' : A18 = if cz = ii + 1 then some az else (some az : Option Addr).map (·.add ((ii + 1) * 1)) := by rw [hA18, show ((ii : Int) + 1).toNat = ii + 1 by omega]
                        have HR18 : Row wr A18 (I8 l18) := by
                          have := cut_row (lo := ii + 1) (hi := (S xa xb).length) (size := 1) (c := cz) hrz hA18' (by rw [I8_length]; omega)
                          rw [hl18]
                          unfold I8
                          rw [List.map_drop]
                          rw [List.take_of_length_le (by rw [I8_length]; omega)] at this
                          simpa [I8] using this
                        rw [show (ii : Int).toNat = l9.length by omega] at hcut9
                        rw [show (S xa xb).length - ((ii : Int) + 1).toNat = l18.length by omega] at hcut18
                        obtain ⟨c18, hc18⟩ : ∃ x, x = cz - ((ii : Int) + 1).toNat := ⟨_, rfl⟩
                        rw [← hc18] at hcut18
                        have HTV : Hid ((S xa xb)[ii]? = some tv) := Lib.hid htv
                        have HLL : Hid (l9 ++ l18 = (S xa xb).eraseIdx ii) := Lib.hid (by rw [hl9, hl18, List.eraseIdx_eq_take_drop_succ])
                        have hr := Lib.hid hr
                        obtain ⟨sz, hsz⟩ : ∃ x, x = (S xa xb).length := ⟨_, rfl⟩
                        rw [← hsz] at c9 hn18 hcz hlen61 hjl hcut9 hcut18
                        have hrr : Hid (cs[xa * 5 + xb]? = some (.slice (some az) sz cz)) := Lib.hid (by rw [hsz]; exact hr.out)
                        clear htv hl9 hl18 hA9 hA18' hA18 hrow hrz hc18 hr
                        have HCUT := Lib.hid (And.intro hcut9 (And.intro HR9 (And.intro hcut18 HR18)))
                        clear hcut9 hcut18 HR9 HR18
                        go_wp2_with fail
                        by_cases hij : ii = j
                        · obtain rfl : tt = tv := by
                            have h1 := HTV.out
                            rw [hij, hjt] at h1
                            exact (Option.some.inj h1)
                          refine wp_region_mem [sv _, sv _, sv (.pointer (some ⟨b9, xa * 5, none⟩)), sv (.pointer (some ⟨b9, xa * 5 + xb, none⟩)), sv (.slice (some az) sz cz), sv _, sv (.pointer (some (az.add (ii * 1)))), sv (.int .i64 tt), sv _, sv (.int .i64 tt), sv (.bool true)] (by kernel_rfl) rfl rfl rfl rfl ⟨
                            (by
                              intro Lq aq wq hd hj Kq hK
                              rw [if_pos (wanted_none rfl)]
                              have f13 := hj.base 13 rfl rfl
                              exact opMove hK rfl (ev f13) rfl),
                            (by
                              intro Lq aq wq hd hj Kq hK
                              rw [if_pos (wanted_none rfl)]
                              have f14 := hj.base 14 rfl rfl
                              exact opMove hK rfl (ev f14) rfl),
                            (by
                              intro Lq aq wq hd hj Kq hK
                              rw [if_pos (wanted_none rfl)]
                              have f9 := hj.base 9 rfl rfl
                              have f161 := hj.val 0 161 rfl rfl (by simp) rfl (hd ⟨0, .data⟩ (by simp) rfl)
                              exact opIndexArr hK rfl (j := xa * 5) (sz := 5) (len := 5) (ev f9) (ev f161) Try.underlying44 (by kernel_rfl) (by omega) (by omega) (by simp) rfl),
                            (by
                              intro Lq aq wq hd hj Kq hK
                              rw [if_pos (wanted_none rfl)]
                              have f163 := hj.val 2 163 rfl rfl (by simp) rfl (hd ⟨2, .data⟩ (by simp) rfl)
                              have f162 := hj.val 1 162 rfl rfl (by simp) rfl (hd ⟨1, .data⟩ (by simp) rfl)
                              exact opIndexArr hK rfl (j := xa * 5 + xb) (sz := 1) (len := 5) (ev f163) (ev f162) Try.underlying43 (by kernel_rfl) (by omega) (by omega) (by simp) rfl),
                            (by
                              intro Lq aq wq hd hj Kq hK
                              rw [if_pos (wanted_none rfl)]
                              have f164 := hj.val 3 164 rfl rfl (by simp) rfl (hd ⟨3, .data⟩ (by simp) rfl)
                              exact opLoad hK rfl (ev f164) Try.underlying41 rfl (Ext.cell ((Ext.refl None_ wr).drew.trans0 hj.ext) c9 (fun a => a)) rfl),
                            (by
                              intro Lq aq wq hd hj Kq hK
                              rw [if_pos (wanted_none rfl)]
                              have f20 := hj.base 20 rfl rfl
                              exact opMove hK rfl (ev f20) rfl),
                            (by
                              intro Lq aq wq hd hj Kq hK
                              rw [if_pos (wanted_none rfl)]
                              have f165 := hj.val 4 165 rfl rfl (by simp) rfl (hd ⟨4, .data⟩ (by simp) rfl)
                              have f166 := hj.val 5 166 rfl rfl (by simp) rfl (hd ⟨5, .data⟩ (by simp) rfl)
                              exact opIndex hK rfl (k := .i64) (i := (ii : Int)) (ev f165) (ev f166) Try.underlying41 intSz1 (by omega) (by omega) (congrArg (fun z => Value.pointer (some (az.add (z * 1)))) (by omega))),
                            (by
                              intro Lq aq wq hd hj Kq hK
                              rw [if_pos (wanted_none rfl)]
                              have f167 := hj.val 6 167 rfl rfl (by simp) rfl (hd ⟨6, .data⟩ (by simp) rfl)
                              exact opLoad hK rfl (ev f167) Try.underlying3 rfl (Ext.cell ((Ext.refl None_ wr).drew.trans0 hj.ext) d7 (fun a => a)) rfl),
                            (by
                              intro Lq aq wq hd hj Kq hK
                              rw [if_pos (wanted_none rfl)]
                              have f17 := hj.base 17 rfl rfl
                              exact opFieldA hK rfl (k := 3) (ev f17) (fun W => by kernel_rfl) rfl),
                            (by
                              intro Lq aq wq hd hj Kq hK
                              rw [if_pos (wanted_none rfl)]
                              have f169 := hj.val 8 169 rfl rfl (by simp) rfl (hd ⟨8, .data⟩ (by simp) rfl)
                              exact opLoad hK rfl (ev f169) Try.underlying3 rfl (Ext.cell ((Ext.refl None_ wr).drew.trans0 hj.ext) hmb.out (fun a => a)) rfl),
                            (by
                              intro Lq aq wq hd hj Kq hK
                              rw [if_pos (wanted_none rfl)]
                              have f168 := hj.val 7 168 rfl rfl (by simp) rfl (hd ⟨7, .data⟩ (by simp) rfl)
                              have f170 := hj.val 9 170 rfl rfl (by simp) rfl (hd ⟨9, .data⟩ (by simp) rfl)
                              exact opBin hK rfl (ev f168) (ev f170) (guardInt _ _ _ _ _ _ _ _ _) (binEqInt _ _ _ _ _) (congrArg Value.bool (by first | rfl | assumption | (simp; omega) | (simp [*]; done)))),
                            trivial⟩ ?fin
                          case fin =>
                            intro vs w3 hx hg
                            have v10 : vs 10 = _ := hg 10 (by decide)
                            have HX2 := Lib.hid ((Ext.refl None_ wr).drew.trans0 hx)
                            clear hx hg d7
                            simp only [putAll, v10, Nat.reduceAdd, Nat.zero_add]
                            simp only [Act.put, List.setIfInBounds_toArray, List.set_cons_succ, List.set_cons_zero]
                            have HSAw := Lib.hid (hsa.out.ext0 HX2.out)
                            have HLNw := Lib.hid (hln.out.ext0 HX2.out)
                            have c9 := Ext.cell HX2.out c9 (fun a => a)
                            have HC9 : Hid ((∀ W : World, (Instr.slice 41 (.slice (some az) sz cz) none (some (.int .i64 (ii : Int))) none).run Try.prog W = .ok (.slice A9 l9.length cz) W) ∧ Row w3 A9 (I8 l9)) := Lib.hid ⟨HCUT.out.1, HCUT.out.2.1.ext0 HX2.out⟩
                            have HC18 : Hid ((∀ W : World, (Instr.slice 41 (.slice (some az) sz cz) (some (.int .i64 ((ii : Int) + 1))) none none).run Try.prog W = .ok (.slice A18 l18.length c18) W) ∧ Row w3 A18 (I8 l18)) := Lib.hid ⟨HCUT.out.2.2.1, HCUT.out.2.2.2.ext0 HX2.out⟩
                            have HPUT := Lib.hid (fun (W1 : World) (r' : Value) (hx1 : Ext None_ w3 W1) (ho : Own W1 3 1 (fun k => w3.heap.size ≤ k) r' (l9 ++ l18).length (I8 (l9 ++ l18))) => put_fin HSAw.out HLNw.out (by omega) (by omega) hrr.out (hx1.mono (fun _ _ a => a.elim)) (ho.mono (fun k _ e => .inr e)))
                            have HS3 : Hid (updS S xa xb (l9 ++ l18) = S2) := Lib.hid (by rw [HLL.out, HS2.out, hij])
                            clear hsa hln hmb HX2 hrr HCUT HLL HTV
                            go_wp2_with fail
                            refine wp_region_chain [10, 19, 22] [(0, 2), (0, 2), (0, 0), (0, 0), (0, 0), (0, 0), (0, 0), (0, 0), (0, 0), (0, 0), (0, 1), (0, 1), (0, 1), (0, 1), (0, 1), (0, 1), (0, 1), (0, 1), (0, 1), (1, 2), (0, 2), (0, 2), (2, 3)] (SP5 w3 b9) [⟨fun W => Ext None_ w3 W, fun _ _ h hx => h.trans0 hx⟩, ⟨fun W => Ext None_ w3 W, fun _ _ h hx => h.trans0 hx⟩, ⟨fun W => Ext None_ w3 W, fun _ _ h hx => h.trans0 hx⟩, ⟨fun W => PutP w b9 g N2 (m + 1) cs S xa xb (l9 ++ l18) W, fun _ _ h hx => h.ext0 hx⟩] [cv _, cv _, cOw w3 b9 0 [], cv _, cv _, cv (.pointer (some ⟨b9, xa * 5, none⟩)), cv (.pointer (some ⟨b9, xa * 5 + xb, none⟩)), cv (.slice (some az) sz cz), cv _, cv (.slice A9 l9.length cz), cOw w3 b9 1 l9, cv _, cv _, cv (.pointer (some ⟨b9, xa * 5, none⟩)), cv (.pointer (some ⟨b9, xa * 5 + xb, none⟩)), cv (.slice (some az) sz cz), cv _, cv (.int .i64 ((ii : Int) + 1)), cv (.slice A18 l18.length c18), cOw w3 b9 2 (l9 ++ l18), cv (.pointer (some ⟨b9, xa * 5, none⟩)), cv (.pointer (some ⟨b9, xa * 5 + xb, none⟩)), cAny] (by kernel_rfl) rfl rfl rfl rfl rfl rfl rfl rfl (((Ext.refl None_ w3).drew : Ext None_ w3 w3.drew)) ⟨
                              (by
                                intro Lq aq wq kq hd hj hlo hhi Kq hK
                                rw [if_pos (wanted_none rfl)]
                                have f13 := hj.base 13 rfl rfl
                                exact opMove hK rfl (ev f13) rfl),
                              (by
                                intro Lq aq wq kq hd hj hlo hhi Kq hK
                                rw [if_pos (wanted_none rfl)]
                                have f14 := hj.base 14 rfl rfl
                                exact opMove hK rfl (ev f14) rfl),
                              (by
                                intro Lq aq wq kq hd hj hlo hhi Kq hK
                                rw [if_pos (wanted_none rfl)]
                                obtain rfl : kq = 0 := Nat.le_antisymm hhi (Nat.zero_le _)
                                have hxq : Ext None_ w3 wq := hj.inv
                                exact opSlice hK rfl (ps := #[]) (by simp) int_slice0 ⟨Nat.le_refl _, fun _ => (Own.full wq #[] 0 (by simp [maxLen]) rfl).mono (fun k _ e => by have := Ext.size hxq; omega)⟩),
                              (by
                                intro Lq aq wq kq hd hj hlo hhi Kq hK
                                rw [if_pos (wanted_none rfl)]
                                have f13 := hj.base 13 rfl rfl
                                exact opMove hK rfl (ev f13) rfl),
                              (by
                                intro Lq aq wq kq hd hj hlo hhi Kq hK
                                rw [if_pos (wanted_none rfl)]
                                have f14 := hj.base 14 rfl rfl
                                exact opMove hK rfl (ev f14) rfl),
                              (by
                                intro Lq aq wq kq hd hj hlo hhi Kq hK
                                rw [if_pos (wanted_none rfl)]
                                have f9 := hj.base 9 rfl rfl
                                have f175 := hj.val 3 175 rfl rfl (by simp) rfl (hd ⟨3, .data⟩ (by simp) rfl)
                                exact opIndexArr hK rfl (j := xa * 5) (sz := 5) (len := 5) (ev f9) (ev f175) Try.underlying44 (by kernel_rfl) (by omega) (by omega) (by simp) rfl),
                              (by
                                intro Lq aq wq kq hd hj hlo hhi Kq hK
                                rw [if_pos (wanted_none rfl)]
                                have f177 := hj.val 5 177 rfl rfl (by simp) rfl (hd ⟨5, .data⟩ (by simp) rfl)
                                have f176 := hj.val 4 176 rfl rfl (by simp) rfl (hd ⟨4, .data⟩ (by simp) rfl)
                                exact opIndexArr hK rfl (j := xa * 5 + xb) (sz := 1) (len := 5) (ev f177) (ev f176) Try.underlying43 (by kernel_rfl) (by omega) (by omega) (by simp) rfl),
                              (by
                                intro Lq aq wq kq hd hj hlo hhi Kq hK
                                rw [if_pos (wanted_none rfl)]
                                have f178 := hj.val 6 178 rfl rfl (by simp) rfl (hd ⟨6, .data⟩ (by simp) rfl)
                                obtain rfl : kq = 0 := Nat.le_antisymm hhi (Nat.zero_le _)
                                have hxq : Ext None_ w3 wq := hj.inv
                                exact opLoad hK rfl (ev f178) Try.underlying41 rfl (Ext.cell hxq c9 (fun a => a)) rfl),
                              (by
                                intro Lq aq wq kq hd hj hlo hhi Kq hK
                                rw [if_pos (wanted_none rfl)]
                                have f20 := hj.base 20 rfl rfl
                                exact opMove hK rfl (ev f20) rfl),
                              (by
                                intro Lq aq wq kq hd hj hlo hhi Kq hK
                                rw [if_pos (wanted_none rfl)]
                                have f179 := hj.val 7 179 rfl rfl (by simp) rfl (hd ⟨7, .data⟩ (by simp) rfl)
                                have f180 := hj.val 8 180 rfl rfl (by simp) rfl (hd ⟨8, .data⟩ (by simp) rfl)
                                exact opSliceOp hK rfl (ev f179) rfl (by simp [ev f180]) rfl Try.underlying41 HC9.out.1 rfl),
                              (by
                                intro Lq aq wq hd hj Kq hK
                                rw [if_pos (wanted_none rfl)]
                                obtain ⟨u174, f174, g174⟩ := hj.at_ 2 174 rfl rfl (by simp) (hd ⟨2, .data⟩ (by simp) rfl)
                                have f181 := hj.val 9 181 rfl rfl (by simp) rfl (hd ⟨9, .data⟩ (by simp) rfl)
                                have hxq : Ext None_ w3 wq := hj.inv
                                have hown := g174.2 (Nat.le_refl _)
                                exact wpAppI _ _ rfl _ u174 [] (ev f174) hown _ cz l9 (ev f181) (HC9.out.2.ext0 hxq) (by simp; omega) (fun v' w' h1 h2 => hK v' w' ⟨Nat.le_refl _, fun _ => h1.mono (fun k _ e => e.elim (fun e => hown.blk k e) (fun e => Nat.le_trans (Ext.size hxq) e))⟩ (hxq.trans h2 (fun k hk e => absurd (hown.blk k e) (Nat.not_le.2 hk))) (h2.mono (fun k _ e => .inl ⟨by decide, hown.blk k e⟩)))),
                              (by
                                intro Lq aq wq kq hd hj hlo hhi Kq hK
                                rw [if_pos (wanted_none rfl)]
                                have f13 := hj.base 13 rfl rfl
                                exact opMove hK rfl (ev f13) rfl),
                              (by
                                intro Lq aq wq kq hd hj hlo hhi Kq hK
                                rw [if_pos (wanted_none rfl)]
                                have f14 := hj.base 14 rfl rfl
                                exact opMove hK rfl (ev f14) rfl),
                              (by
                                intro Lq aq wq kq hd hj hlo hhi Kq hK
                                rw [if_pos (wanted_none rfl)]
                                have f9 := hj.base 9 rfl rfl
                                have f183 := hj.val 11 183 rfl rfl (by simp) rfl (hd ⟨11, .data⟩ (by simp) rfl)
                                exact opIndexArr hK rfl (j := xa * 5) (sz := 5) (len := 5) (ev f9) (ev f183) Try.underlying44 (by kernel_rfl) (by omega) (by omega) (by simp) rfl),
                              (by
                                intro Lq aq wq kq hd hj hlo hhi Kq hK
                                rw [if_pos (wanted_none rfl)]
                                have f185 := hj.val 13 185 rfl rfl (by simp) rfl (hd ⟨13, .data⟩ (by simp) rfl)
                                have f184 := hj.val 12 184 rfl rfl (by simp) rfl (hd ⟨12, .data⟩ (by simp) rfl)
                                exact opIndexArr hK rfl (j := xa * 5 + xb) (sz := 1) (len := 5) (ev f185) (ev f184) Try.underlying43 (by kernel_rfl) (by omega) (by omega) (by simp) rfl),
                              (by
                                intro Lq aq wq kq hd hj hlo hhi Kq hK
                                rw [if_pos (wanted_none rfl)]
                                have f186 := hj.val 14 186 rfl rfl (by simp) rfl (hd ⟨14, .data⟩ (by simp) rfl)
                                have hxq : Ext None_ w3 wq := by
                                  have hh : kq ≤ 1 := hhi
                                  rcases (show kq = 0 ∨ kq = 1 by omega) with rfl | rfl <;> exact hj.inv
                                exact opLoad hK rfl (ev f186) Try.underlying41 rfl (Ext.cell hxq c9 (fun a => a)) rfl),
                              (by
                                intro Lq aq wq kq hd hj hlo hhi Kq hK
                                rw [if_pos (wanted_none rfl)]
                                have f20 := hj.base 20 rfl rfl
                                exact opMove hK rfl (ev f20) rfl),
                              (by
                                intro Lq aq wq kq hd hj hlo hhi Kq hK
                                rw [if_pos (wanted_none rfl)]
                                have f188 := hj.val 16 188 rfl rfl (by simp) rfl (hd ⟨16, .data⟩ (by simp) rfl)
                                exact opBin hK rfl (ev f188) rfl (guardInt _ _ _ _ _ _ _ _ _) (binAdd _ _ _ _ (IntWalk.i64_in _ (by omega))) rfl),
                              (by
                                intro Lq aq wq kq hd hj hlo hhi Kq hK
                                rw [if_pos (wanted_none rfl)]
                                have f187 := hj.val 15 187 rfl rfl (by simp) rfl (hd ⟨15, .data⟩ (by simp) rfl)
                                have f189 := hj.val 17 189 rfl rfl (by simp) rfl (hd ⟨17, .data⟩ (by simp) rfl)
                                exact opSliceOp hK rfl (ev f187) (by simp [ev f189]) rfl rfl Try.underlying41 HC18.out.1 rfl),
                              (by
                                intro Lq aq wq hd hj Kq hK
                                rw [if_pos (wanted_none rfl)]
                                obtain ⟨u182, f182, g182⟩ := hj.at_ 10 182 rfl rfl (by simp) (hd ⟨10, .data⟩ (by simp) rfl)
                                have f190 := hj.val 18 190 rfl rfl (by simp) rfl (hd ⟨18, .data⟩ (by simp) rfl)
                                have hxq : Ext None_ w3 wq := hj.inv
                                have hown := g182.2 (Nat.le_refl _)
                                exact wpAppI _ _ rfl _ u182 l9 (ev f182) hown _ c18 l18 (ev f190) (HC18.out.2.ext0 hxq) (by omega) (fun v' w' h1 h2 => hK v' w' ⟨Nat.le_refl _, fun _ => h1.mono (fun k _ e => e.elim (fun e => hown.blk k e) (fun e => Nat.le_trans (Ext.size hxq) e))⟩ (hxq.trans h2 (fun k hk e => absurd (hown.blk k e) (Nat.not_le.2 hk))) (h2.mono (fun k _ e => .inl ⟨by decide, hown.blk k e⟩)))),
                              (by
                                intro Lq aq wq kq hd hj hlo hhi Kq hK
                                rw [if_pos (wanted_none rfl)]
                                have f9 := hj.base 9 rfl rfl
                                have f172 := hj.val 0 172 rfl rfl (by simp) rfl (hd ⟨0, .data⟩ (by simp) rfl)
                                exact opIndexArr hK rfl (j := xa * 5) (sz := 5) (len := 5) (ev f9) (ev f172) Try.underlying44 (by kernel_rfl) (by omega) (by omega) (by simp) rfl),
                              (by
                                intro Lq aq wq kq hd hj hlo hhi Kq hK
                                rw [if_pos (wanted_none rfl)]
                                have f192 := hj.val 20 192 rfl rfl (by simp) rfl (hd ⟨20, .data⟩ (by simp) rfl)
                                have f173 := hj.val 1 173 rfl rfl (by simp) rfl (hd ⟨1, .data⟩ (by simp) rfl)
                                exact opIndexArr hK rfl (j := xa * 5 + xb) (sz := 1) (len := 5) (ev f192) (ev f173) Try.underlying43 (by kernel_rfl) (by omega) (by omega) (by simp) rfl),
                              (by
                                intro Lq aq wq hd hj Kq hK
                                rw [if_pos (wanted_none rfl)]
                                have f193 := hj.val 21 193 rfl rfl (by simp) rfl (hd ⟨21, .data⟩ (by simp) rfl)
                                obtain ⟨u191, f191, g191⟩ := hj.at_ 19 191 rfl rfl (by simp) (hd ⟨19, .data⟩ (by simp) rfl)
                                have hxq : Ext None_ w3 wq := hj.inv
                                have ho := g191.2 (Nat.le_refl _)
                                obtain ⟨p1, p2, p3, p4, p5⟩ := HPUT.out wq u191 hxq ho
                                exact opStoreC hK rfl (ev f193) (ev f191) p4 p5 (by kernel_rfl) p1 p2 trivial p3 ((Ext.refl _ _).setCell (.inl (.inr ⟨rfl, rfl⟩)) _)),
                              trivial⟩ ?fin
                            case fin =>
                              intro vs w4 hI hg
                              have hI : PutP w b9 g N2 (m + 1) cs S xa xb (l9 ++ l18) w4 := hI
                              obtain ⟨r', h1, h2⟩ := hI
                              rw [HS3.out] at h1
                              have HSA3 := Lib.hid h1
                              have HLN3 := Lib.hid h2
                              clear hg h1 h2 c9 HPUT HC9 HC18 HSAw HLNw HS3
                              simp only [putAll, Nat.reduceAdd, Nat.zero_add]
                              simp only [Act.put, List.setIfInBounds_toArray, List.set_cons_succ, List.set_cons_zero]
                              go_wp2_with fail
                              go_roundw
                              case rel => exact .inr ⟨ii + 1, _, rfl, by go_num, by omega, HSA3, HLN3⟩
                              case measure => simp [intOf]; omega
                        · have hne : tv ≠ tt := HNE.out ii (by omega) tv HTV.out
                          refine wp_region_mem [sv _, sv _, sv (.pointer (some ⟨b9, xa * 5, none⟩)), sv (.pointer (some ⟨b9, xa * 5 + xb, none⟩)), sv (.slice (some az) sz cz), sv _, sv (.pointer (some (az.add (ii * 1)))), sv (.int .i64 tv), sv _, sv (.int .i64 tt), sv (.bool false)] (by kernel_rfl) rfl rfl rfl rfl ⟨
                            (by
                              intro Lq aq wq hd hj Kq hK
                              rw [if_pos (wanted_none rfl)]
                              have f13 := hj.base 13 rfl rfl
                              exact opMove hK rfl (ev f13) rfl),
                            (by
                              intro Lq aq wq hd hj Kq hK
                              rw [if_pos (wanted_none rfl)]
                              have f14 := hj.base 14 rfl rfl
                              exact opMove hK rfl (ev f14) rfl),
                            (by
                              intro Lq aq wq hd hj Kq hK
                              rw [if_pos (wanted_none rfl)]
                              have f9 := hj.base 9 rfl rfl
                              have f161 := hj.val 0 161 rfl rfl (by simp) rfl (hd ⟨0, .data⟩ (by simp) rfl)
                              exact opIndexArr hK rfl (j := xa * 5) (sz := 5) (len := 5) (ev f9) (ev f161) Try.underlying44 (by kernel_rfl) (by omega) (by omega) (by simp) rfl),
                            (by
                              intro Lq aq wq hd hj Kq hK
                              rw [if_pos (wanted_none rfl)]
                              have f163 := hj.val 2 163 rfl rfl (by simp) rfl (hd ⟨2, .data⟩ (by simp) rfl)
                              have f162 := hj.val 1 162 rfl rfl (by simp) rfl (hd ⟨1, .data⟩ (by simp) rfl)
                              exact opIndexArr hK rfl (j := xa * 5 + xb) (sz := 1) (len := 5) (ev f163) (ev f162) Try.underlying43 (by kernel_rfl) (by omega) (by omega) (by simp) rfl),
                            (by
                              intro Lq aq wq hd hj Kq hK
                              rw [if_pos (wanted_none rfl)]
                              have f164 := hj.val 3 164 rfl rfl (by simp) rfl (hd ⟨3, .data⟩ (by simp) rfl)
                              exact opLoad hK rfl (ev f164) Try.underlying41 rfl (Ext.cell ((Ext.refl None_ wr).drew.trans0 hj.ext) c9 (fun a => a)) rfl),
                            (by
                              intro Lq aq wq hd hj Kq hK
                              rw [if_pos (wanted_none rfl)]
                              have f20 := hj.base 20 rfl rfl
                              exact opMove hK rfl (ev f20) rfl),
                            (by
                              intro Lq aq wq hd hj Kq hK
                              rw [if_pos (wanted_none rfl)]
                              have f165 := hj.val 4 165 rfl rfl (by simp) rfl (hd ⟨4, .data⟩ (by simp) rfl)
                              have f166 := hj.val 5 166 rfl rfl (by simp) rfl (hd ⟨5, .data⟩ (by simp) rfl)
                              exact opIndex hK rfl (k := .i64) (i := (ii : Int)) (ev f165) (ev f166) Try.underlying41 intSz1 (by omega) (by omega) (congrArg (fun z => Value.pointer (some (az.add (z * 1)))) (by omega))),
                            (by
                              intro Lq aq wq hd hj Kq hK
                              rw [if_pos (wanted_none rfl)]
                              have f167 := hj.val 6 167 rfl rfl (by simp) rfl (hd ⟨6, .data⟩ (by simp) rfl)
                              exact opLoad hK rfl (ev f167) Try.underlying3 rfl (Ext.cell ((Ext.refl None_ wr).drew.trans0 hj.ext) d7 (fun a => a)) rfl),
                            (by
                              intro Lq aq wq hd hj Kq hK
                              rw [if_pos (wanted_none rfl)]
                              have f17 := hj.base 17 rfl rfl
                              exact opFieldA hK rfl (k := 3) (ev f17) (fun W => by kernel_rfl) rfl),
                            (by
                              intro Lq aq wq hd hj Kq hK
                              rw [if_pos (wanted_none rfl)]
                              have f169 := hj.val 8 169 rfl rfl (by simp) rfl (hd ⟨8, .data⟩ (by simp) rfl)
                              exact opLoad hK rfl (ev f169) Try.underlying3 rfl (Ext.cell ((Ext.refl None_ wr).drew.trans0 hj.ext) hmb.out (fun a => a)) rfl),
                            (by
                              intro Lq aq wq hd hj Kq hK
                              rw [if_pos (wanted_none rfl)]
                              have f168 := hj.val 7 168 rfl rfl (by simp) rfl (hd ⟨7, .data⟩ (by simp) rfl)
                              have f170 := hj.val 9 170 rfl rfl (by simp) rfl (hd ⟨9, .data⟩ (by simp) rfl)
                              exact opBin hK rfl (ev f168) (ev f170) (guardInt _ _ _ _ _ _ _ _ _) (binEqInt _ _ _ _ _) (congrArg Value.bool (by first | rfl | assumption | (simp; omega) | (simp [*]; done)))),
                            trivial⟩ ?fin
                          case fin =>
                            intro vs w3 hx hg
                            have v10 : vs 10 = _ := hg 10 (by decide)
                            have HX2 := Lib.hid ((Ext.refl None_ wr).drew.trans0 hx)
                            clear hx hg d7
                            simp only [putAll, v10, Nat.reduceAdd, Nat.zero_add]
                            simp only [Act.put, List.setIfInBounds_toArray, List.set_cons_succ, List.set_cons_zero]
                            have HSAw := Lib.hid (hsa.out.ext0 HX2.out)
                            have HLNw := Lib.hid (hln.out.ext0 HX2.out)
                            have HMBw := Lib.hid (Ext.cell HX2.out hmb.out (fun a => a))
                            clear hsa hln hmb HX2 hrr HCUT HLL HTV c9
                            go_wp2_with fail
                            go_roundw
                            case rel => exact .inl ⟨ii + 1, rfl, by go_num, by omega, HSAw, HLNw, HMBw⟩
                            case measure => simp [intOf]; omega
                      · obtain ⟨r, hr, hrow⟩ := hsa.out.row xa xb (by omega) (by omega)
                        have c9 : wr.cell? ⟨b9, xa * 5 + xb, none⟩ = some r := by rw [Blk.cell hsa.out.blk, List.getElem?_toArray]; exact hr
                        obtain ⟨Az, cz, rfl, hcz, hcm2, _⟩ := Own.slice hrow
                        have hL2 := HL2.out
                        clear hr hrow
                        obtain ⟨L2, hL2e⟩ : ∃ x, x = (S2 xa xb).length := ⟨_, rfl⟩
                        rw [← hL2e] at c9 hL2 hcz
                        have HL3 := Lib.hid hL2e
                        clear hL2e
                        by_cases hlt : ii < L2
                        · go_wp2_with fail
                          go_roundw
                          case rel => exact ⟨k + 1, m + 1, N2, S2, cs2, by go_num, by rw [← HL3.out]; omega, by rw [← HL3.out]; omega, HEM2, HOR5, hsa, hln⟩
                          case measure => simp [intOf]; omega
                        · go_wp2_with fail
                          go_roundw
                          case rel => exact ⟨k + 1, m + 1, N2, S2, cs2, by go_num, by rw [← HL3.out]; omega, by rw [← HL3.out]; omega, HEM2, HOR5, hsa, hln⟩
                          case measure => simp [intOf]; omega
          · have hbe : xb = n := by omega
            subst hbe
            go_wp2_with fail
            go_roundw
            case rel => exact ⟨xa + 1, m, N, S, cs, by go_num, by omega, by omega, Lib.hid (fun x y h1 h2 => hem.out x y (by omega) h2), hor, hsa, hln⟩
            case measure => simp [intOf]; omega
      · have hae : xa = n := by omega
        subst hae
        have HLK := Lib.hid (hor.out.links (fun x y h1 h2 => hem.out x y h1 h2))
        go_wp2_with fail
        refine (ln_links hln.out).mono ?_
        rintro e w5 ⟨A5, c5, he, _, hx⟩
        rw [HLK.out] at he
        subst he
        have H6 := Lib.hid (hln.out.ext0 hx)
        clear hx hln
        go_wp2_with fail
        refine (NetRuns_any _).mono ?_
        rintro e w6 ⟨rfl, hx⟩
        have H7 := Lib.hid (H6.out.ext0 hx)
        clear hx H6
        go_wp2_with fail
        go_ret
        exact ⟨rfl, by obtain ⟨M, C, h1, h2, _⟩ := H7.out; exact h2⟩
theorem NetOnly_row {w : World} {A2 : Option Addr} {c2 : Nat} (n0 : Int) (hn0 : (Lit.int .i64 n0).wf = true) (x : AkN) (hx : x.ok w) (od : List Int) (hr : Row w A2 (od.map (Value.int .i64))) (hc : od.length ≤ c2) (hm : c2 * 8 ≤ 140737488351232) (hw : ∀ n ∈ od, I64 n) : Calls Try.prog 4 #[.int .i64 n0, x.v, .slice A2 od.length c2] w fun e w' => e = .returned (.bool true) ∧ Ext None_ w w' :=
  NetOnly_any n0 (i64_of hn0) x.2.1 x.2.2 x.1 A2 c2 od w hx.1 hx.2 hr hc (by omega) hw
end Go.Proofs.Ythjabbheobpoeaa
