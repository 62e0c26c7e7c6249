/- Equal messages, equal lists of links: drayref22.Entries, draykeep.Message, draybook.Same, walked. Written by gen_rl.py. -/
import Derived.Test.YthjabbheobpoeaaRk
import Derived.Laws.StructEq
set_option linter.unusedVariables false
set_option linter.unusedSimpArgs false
namespace Go.Proofs.Ythjabbheobpoeaa
open Go.RowKit B
theorem ent_neq (t : Int) (d : ByteArray) (w : World) : (binOp .neq 72 (.agg #[.int .i64 t, .string d]) (.agg #[.int .i64 t, .string d])).run Try.prog w = .ok (.bool false) w := by
  rw [run_neq_struct, run_equalIn_agg w 9999 _ _ _ (by kernel_rfl) (by kernel_rfl)]
  obtain ⟨f1, f2, hf, h1, h2, h3, h4, h5, h6⟩ : ∃ f1 f2 : Field, (Try.prog.fieldsOf 72).toList = [f1, f2] ∧ (f1.name == "_") = false ∧ f1.type = 3 ∧ f1.offset = 0 ∧ (f2.name == "_") = false ∧ f2.type = 9 ∧ f2.offset = 1 := ⟨_, _, rfl, by kernel_rfl, by kernel_rfl, by kernel_rfl, by kernel_rfl, by kernel_rfl, by kernel_rfl⟩
  have n1 : ¬ f1.name = "_" := by simpa using h1
  have n4 : ¬ f2.name = "_" := by simpa using h4
  rw [hf]
  simp [Op.eqFields, n1, h2, h3, n4, h5, h6, part, run_equalIn_int (P := Try.prog) (k' := .i64) w 9998 3 .i64 t t (by kernel_rfl), run_equalIn_string (P := Try.prog) w 9998 9 d d (by kernel_rfl)]
theorem link_neq (a c : Int) (ha : I64 a) (hc : I64 c) (w : World) : (binOp .neq 38 (kv a c) (kv a c)).run Try.prog w = .ok (.bool false) w := by
  have := link_eq a c a c ha hc ha hc w
  simp only [kv] at this
  simp [binOp, this, kv]
theorem opLoadAdr {P : Program} {o : Oper} {a : Act} {w : World} {K : Act → World → Prop} {Q : Exit → Act → World → Prop} {p : Value → World → Prop} (hK : ∀ v w', p v w' → Ext None_ w w' → K (a.put o.dst v) w') {ty : TypeId} {x : Operand} (ho : o.op = .load ty x) (ad : Addr) (hx : a.eval x = .pointer (some ad)) (cs : List Value) {d : TypeDesc} (hc : ∀ j v, cs[j]? = some v → w.cell? (ad.add j) = some v)
    (hu : P.underlying ty = some d) (hd : d.isRow = true) (hi : (P.info? ty).map (·.size) = some cs.length) (hp : p (.agg cs.toArray) w) : o.wp P a w K Q := by
  have hagg : (isAgg ty).run P w = .ok true w := by
    unfold isAgg
    rw [Sem.run_bind, run_underlying hu w]
    cases d <;> simp_all [TypeDesc.isRow]
  obtain ⟨ie, hi1, hi2⟩ := Option.map_eq_some_iff.1 hi
  have hl := run_loadCells_list (P := P) (w := w) ad cs hc
  refine opVal hK ?_ hp
  unfold execOp
  simp only [ho, hx]
  simp [Instr.loadAt, Instr.sureAddr, loadVar, Sem.run_bind, hagg, sizeOf, typeInfo, hi1, hi2, hl]
theorem entSize : (Try.prog.info? 72).map (·.size) = some 2 := by kernel_rfl
/-- The cells of one element of a row of two-cell elements. -/
theorem two_cells {α : Type} {f : α → List Value} (hf : ∀ x, (f x).length = 2) {w : World} {ad : Addr} {l : List α} (h : Row w (some ad) (l.flatMap f)) {i : Nat} {x : α} (hi : l[i]? = some x) : ∀ j v, (f x)[j]? = some v → w.cell? ((ad.add (i * 2)).add j) = some v := fun j v hj => by
  have hl : j < 2 := by have := (List.getElem?_eq_some_iff.1 hj).1; rwa [hf] at this
  have hg : (l.flatMap f)[i * 2 + j]? = some v := by
    clear h
    induction l generalizing i with
    | nil => simp at hi
    | cons y r ih =>
      rw [List.flatMap_cons]
      cases i with
      | zero =>
        simp at hi
        subst hi
        rw [Nat.zero_mul, Nat.zero_add, List.getElem?_append_left (by rw [hf]; exact hl)]
        exact hj
      | succ i =>
        simp only [List.getElem?_cons_succ] at hi
        rw [List.getElem?_append_right (by rw [hf]; omega), hf, show (i + 1) * 2 + j - 2 = i * 2 + j by omega]
        exact ih hi
  obtain ⟨ad', e, hc⟩ := h _ _ hg
  cases e
  rwa [add_add]
set_option maxRecDepth 100000 in
set_option maxHeartbeats 8000000 in
theorem Entries_any (l : List (Int × ByteArray)) (A B : Option Addr) (c d : Nat) (w : World) (hA : Row w A (l.flatMap (fun e : Int × ByteArray => [Value.int .i64 e.1, Value.string e.2]))) (hB : Row w B (l.flatMap (fun e : Int × ByteArray => [Value.int .i64 e.1, Value.string e.2]))) (hl : l.length ≤ 5864062014805) : Calls Try.prog 26 #[.slice A l.length c, .slice B l.length d] w fun e w' => e = .returned (.bool true) ∧ Ext None_ w w' := by
  have HA := Lib.hid hA
  have HB := Lib.hid hB
  clear hA hB
  go_enter Try.func26, Try.ntmps26
  go_wp2_with fail
  go_loopw [5] (fun v5 wr => ∃ i : Nat, v5 = .int .i64 i ∧ i ≤ l.length ∧ Hid (Ext None_ w wr)) (fun v5 _ => l.length - (intOf v5).toNat)
  case atStart => exact ⟨0, rfl, by omega, Lib.hid (Ext.refl _ _)⟩
  case round =>
    obtain ⟨i, rfl, hi, hx⟩ := hrel
    by_cases hlt : i < l.length
    · obtain ⟨q, hq⟩ : ∃ q, l[i]? = some q := ⟨_, List.getElem?_eq_getElem hlt⟩
      have hpos : 0 < (l.flatMap (fun e : Int × ByteArray => [Value.int .i64 e.1, Value.string e.2])).length := by
        have h2 : ∀ r : List (Int × ByteArray), (r.flatMap (fun e : Int × ByteArray => [Value.int .i64 e.1, Value.string e.2])).length = r.length * 2 := fun r => by
          induction r with
          | nil => rfl
          | cons y r ih => rw [List.flatMap_cons, List.length_append, ih]; simp; omega
        rw [h2]; omega
      obtain ⟨ad, hA0⟩ := HA.out.some hpos
      obtain ⟨bd, hB0⟩ := HB.out.some hpos
      have HCA : Hid (∀ j v, ([Value.int .i64 q.1, Value.string q.2])[j]? = some v → wr.cell? ((ad.add (i * 2)).add j) = some v) := Lib.hid (fun j v hj => Ext.cell hx.out (two_cells (f := (fun e : Int × ByteArray => [Value.int .i64 e.1, Value.string e.2])) (fun _ => rfl) (hA0 ▸ HA.out) hq j v hj) (fun a => a))
      have HCB : Hid (∀ j v, ([Value.int .i64 q.1, Value.string q.2])[j]? = some v → wr.cell? ((bd.add (i * 2)).add j) = some v) := Lib.hid (fun j v hj => Ext.cell hx.out (two_cells (f := (fun e : Int × ByteArray => [Value.int .i64 e.1, Value.string e.2])) (fun _ => rfl) (hB0 ▸ HB.out) hq j v hj) (fun a => a))
      rw [hA0, hB0]
      clear hpos hA0 hB0 hq
      go_wp2_with fail
      refine wp_region_mem [sv _, sv _, sv (.pointer (some (ad.add (i * 2)))), sv (.agg ([Value.int .i64 q.1, Value.string q.2]).toArray), sv _, sv _, sv (.pointer (some (bd.add (i * 2)))), sv (.agg ([Value.int .i64 q.1, Value.string q.2]).toArray), sv (.bool false)] (by kernel_rfl) rfl rfl rfl rfl ⟨
        (by
          intro Lq aq wq hd hj Kq hK
          rw [if_pos (wanted_none rfl)]
          have f0 := hj.base 0 rfl rfl
          exact opMove hK rfl (ev f0) rfl),
        (by
          intro Lq aq wq hd hj Kq hK
          rw [if_pos (wanted_none rfl)]
          have f5 := hj.base 5 rfl rfl
          exact opMove hK rfl (ev f5) rfl),
        (by
          intro Lq aq wq hd hj Kq hK
          rw [if_pos (wanted_none rfl)]
          have f17 := hj.val 0 17 rfl rfl (by simp) rfl (hd ⟨0, .data⟩ (by simp) rfl)
          have f18 := hj.val 1 18 rfl rfl (by simp) rfl (hd ⟨1, .data⟩ (by simp) rfl)
          exact opIndex hK rfl (k := .i64) (i := (i : Int)) (ev f17) (ev f18) Try.underlying26 entSize (by omega) (by omega) (congrArg (fun z => Value.pointer (some (ad.add (z * 2)))) (by omega))),
        (by
          intro Lq aq wq hd hj Kq hK
          rw [if_pos (wanted_none rfl)]
          have f19 := hj.val 2 19 rfl rfl (by simp) rfl (hd ⟨2, .data⟩ (by simp) rfl)
          exact opLoadAdr hK rfl (ad.add (i * 2)) (ev f19) ([Value.int .i64 q.1, Value.string q.2]) (fun j v hj' => Ext.cell ((Ext.refl None_ wr).drew.trans0 hj.ext) (HCA.out j v hj') (fun a => a)) Try.underlying72 rfl entSize rfl),
        (by
          intro Lq aq wq hd hj Kq hK
          rw [if_pos (wanted_none rfl)]
          have f1 := hj.base 1 rfl rfl
          exact opMove hK rfl (ev f1) rfl),
        (by
          intro Lq aq wq hd hj Kq hK
          rw [if_pos (wanted_none rfl)]
          have f5 := hj.base 5 rfl rfl
          exact opMove hK rfl (ev f5) rfl),
        (by
          intro Lq aq wq hd hj Kq hK
          rw [if_pos (wanted_none rfl)]
          have f21 := hj.val 4 21 rfl rfl (by simp) rfl (hd ⟨4, .data⟩ (by simp) rfl)
          have f22 := hj.val 5 22 rfl rfl (by simp) rfl (hd ⟨5, .data⟩ (by simp) rfl)
          exact opIndex hK rfl (k := .i64) (i := (i : Int)) (ev f21) (ev f22) Try.underlying26 entSize (by omega) (by omega) (congrArg (fun z => Value.pointer (some (bd.add (z * 2)))) (by omega))),
        (by
          intro Lq aq wq hd hj Kq hK
          rw [if_pos (wanted_none rfl)]
          have f23 := hj.val 6 23 rfl rfl (by simp) rfl (hd ⟨6, .data⟩ (by simp) rfl)
          exact opLoadAdr hK rfl (bd.add (i * 2)) (ev f23) ([Value.int .i64 q.1, Value.string q.2]) (fun j v hj' => Ext.cell ((Ext.refl None_ wr).drew.trans0 hj.ext) (HCB.out j v hj') (fun a => a)) Try.underlying72 rfl entSize rfl),
        (by
          intro Lq aq wq hd hj Kq hK
          rw [if_pos (wanted_none rfl)]
          have f20 := hj.val 3 20 rfl rfl (by simp) rfl (hd ⟨3, .data⟩ (by simp) rfl)
          have f24 := hj.val 7 24 rfl rfl (by simp) rfl (hd ⟨7, .data⟩ (by simp) rfl)
          exact opBin hK rfl (ev f20) (ev f24) (run_eqGuard_agg _ _ _ _ _ _ _ (by kernel_rfl)) (ent_neq q.1 q.2 _) rfl),
        trivial⟩ ?fin
      case fin =>
        intro vs w9 hx9 hg
        have v8 : vs 8 = _ := hg 8 (by decide)
        have X := Lib.hid ((hx.out.trans0 ((Ext.refl None_ wr).drew.trans0 hx9)))
        clear hx9 hg
        simp only [putAll, v8, Nat.reduceAdd, Nat.zero_add]
        simp only [Act.put, List.setIfInBounds_toArray, List.set_cons_succ, List.set_cons_zero]
        go_wp2_with fail
        go_roundw
        case rel => exact ⟨i + 1, by go_num, by omega, X⟩
        case measure => simp [intOf]; omega
    · obtain rfl : i = l.length := by omega
      go_wp2_with fail
      go_ret
      exact ⟨rfl, hx.out⟩
set_option maxRecDepth 100000 in
set_option maxHeartbeats 8000000 in
theorem SameL_any (l : List (Int × Int)) (hll : ∀ q ∈ l, I64 q.1 ∧ I64 q.2) (A B : Option Addr) (c d : Nat) (w : World) (hA : Row w A (l.flatMap (fun e : Int × Int => [Value.int .i64 e.1, Value.int .i64 e.2]))) (hB : Row w B (l.flatMap (fun e : Int × Int => [Value.int .i64 e.1, Value.int .i64 e.2]))) (hl : l.length ≤ 1000) : Calls Try.prog 35 #[.slice A l.length c, .slice B l.length d] w fun e w' => e = .returned (.bool true) ∧ Ext None_ w w' := by
  have HA := Lib.hid hA
  have HB := Lib.hid hB
  clear hA hB
  go_enter Try.func35, Try.ntmps35
  go_wp2_with fail
  go_loopw [5] (fun v5 wr => ∃ i : Nat, v5 = .int .i64 i ∧ i ≤ l.length ∧ Hid (Ext None_ w wr)) (fun v5 _ => l.length - (intOf v5).toNat)
  case atStart => exact ⟨0, rfl, by omega, Lib.hid (Ext.refl _ _)⟩
  case round =>
    obtain ⟨i, rfl, hi, hx⟩ := hrel
    by_cases hlt : i < l.length
    · obtain ⟨q, hq⟩ : ∃ q, l[i]? = some q := ⟨_, List.getElem?_eq_getElem hlt⟩
      have hq2 := hll q (List.mem_of_getElem? hq)
      have hpos : 0 < (l.flatMap (fun e : Int × Int => [Value.int .i64 e.1, Value.int .i64 e.2])).length := by
        have h2 : ∀ r : List (Int × Int), (r.flatMap (fun e : Int × Int => [Value.int .i64 e.1, Value.int .i64 e.2])).length = r.length * 2 := fun r => by
          induction r with
          | nil => rfl
          | cons y r ih => rw [List.flatMap_cons, List.length_append, ih]; simp; omega
        rw [h2]; omega
      obtain ⟨ad, hA0⟩ := HA.out.some hpos
      obtain ⟨bd, hB0⟩ := HB.out.some hpos
      have HCA : Hid (∀ j v, ([Value.int .i64 q.1, Value.int .i64 q.2])[j]? = some v → wr.cell? ((ad.add (i * 2)).add j) = some v) := Lib.hid (fun j v hj => Ext.cell hx.out (two_cells (f := (fun e : Int × Int => [Value.int .i64 e.1, Value.int .i64 e.2])) (fun _ => rfl) (hA0 ▸ HA.out) hq j v hj) (fun a => a))
      have HCB : Hid (∀ j v, ([Value.int .i64 q.1, Value.int .i64 q.2])[j]? = some v → wr.cell? ((bd.add (i * 2)).add j) = some v) := Lib.hid (fun j v hj => Ext.cell hx.out (two_cells (f := (fun e : Int × Int => [Value.int .i64 e.1, Value.int .i64 e.2])) (fun _ => rfl) (hB0 ▸ HB.out) hq j v hj) (fun a => a))
      rw [hA0, hB0]
      clear hpos hA0 hB0 hq
      go_wp2_with fail
      refine wp_region_mem [sv _, sv _, sv (.pointer (some (ad.add (i * 2)))), sv (.agg ([Value.int .i64 q.1, Value.int .i64 q.2]).toArray), sv _, sv _, sv (.pointer (some (bd.add (i * 2)))), sv (.agg ([Value.int .i64 q.1, Value.int .i64 q.2]).toArray), sv (.bool false)] (by kernel_rfl) rfl rfl rfl rfl ⟨
        (by
          intro Lq aq wq hd hj Kq hK
          rw [if_pos (wanted_none rfl)]
          have f0 := hj.base 0 rfl rfl
          exact opMove hK rfl (ev f0) rfl),
        (by
          intro Lq aq wq hd hj Kq hK
          rw [if_pos (wanted_none rfl)]
          have f5 := hj.base 5 rfl rfl
          exact opMove hK rfl (ev f5) rfl),
        (by
          intro Lq aq wq hd hj Kq hK
          rw [if_pos (wanted_none rfl)]
          have f17 := hj.val 0 17 rfl rfl (by simp) rfl (hd ⟨0, .data⟩ (by simp) rfl)
          have f18 := hj.val 1 18 rfl rfl (by simp) rfl (hd ⟨1, .data⟩ (by simp) rfl)
          exact opIndex hK rfl (k := .i64) (i := (i : Int)) (ev f17) (ev f18) Try.underlying35 keySize (by omega) (by omega) (congrArg (fun z => Value.pointer (some (ad.add (z * 2)))) (by omega))),
        (by
          intro Lq aq wq hd hj Kq hK
          rw [if_pos (wanted_none rfl)]
          have f19 := hj.val 2 19 rfl rfl (by simp) rfl (hd ⟨2, .data⟩ (by simp) rfl)
          exact opLoadAdr hK rfl (ad.add (i * 2)) (ev f19) ([Value.int .i64 q.1, Value.int .i64 q.2]) (fun j v hj' => Ext.cell ((Ext.refl None_ wr).drew.trans0 hj.ext) (HCA.out j v hj') (fun a => a)) Try.underlying38 rfl keySize rfl),
        (by
          intro Lq aq wq hd hj Kq hK
          rw [if_pos (wanted_none rfl)]
          have f1 := hj.base 1 rfl rfl
          exact opMove hK rfl (ev f1) rfl),
        (by
          intro Lq aq wq hd hj Kq hK
          rw [if_pos (wanted_none rfl)]
          have f5 := hj.base 5 rfl rfl
          exact opMove hK rfl (ev f5) rfl),
        (by
          intro Lq aq wq hd hj Kq hK
          rw [if_pos (wanted_none rfl)]
          have f21 := hj.val 4 21 rfl rfl (by simp) rfl (hd ⟨4, .data⟩ (by simp) rfl)
          have f22 := hj.val 5 22 rfl rfl (by simp) rfl (hd ⟨5, .data⟩ (by simp) rfl)
          exact opIndex hK rfl (k := .i64) (i := (i : Int)) (ev f21) (ev f22) Try.underlying35 keySize (by omega) (by omega) (congrArg (fun z => Value.pointer (some (bd.add (z * 2)))) (by omega))),
        (by
          intro Lq aq wq hd hj Kq hK
          rw [if_pos (wanted_none rfl)]
          have f23 := hj.val 6 23 rfl rfl (by simp) rfl (hd ⟨6, .data⟩ (by simp) rfl)
          exact opLoadAdr hK rfl (bd.add (i * 2)) (ev f23) ([Value.int .i64 q.1, Value.int .i64 q.2]) (fun j v hj' => Ext.cell ((Ext.refl None_ wr).drew.trans0 hj.ext) (HCB.out j v hj') (fun a => a)) Try.underlying38 rfl keySize rfl),
        (by
          intro Lq aq wq hd hj Kq hK
          rw [if_pos (wanted_none rfl)]
          have f20 := hj.val 3 20 rfl rfl (by simp) rfl (hd ⟨3, .data⟩ (by simp) rfl)
          have f24 := hj.val 7 24 rfl rfl (by simp) rfl (hd ⟨7, .data⟩ (by simp) rfl)
          exact opBin hK rfl (ev f20) (ev f24) (run_eqGuard_agg _ _ _ _ _ _ _ (by kernel_rfl)) (link_neq q.1 q.2 hq2.1 hq2.2 _) rfl),
        trivial⟩ ?fin
      case fin =>
        intro vs w9 hx9 hg
        have v8 : vs 8 = _ := hg 8 (by decide)
        have X := Lib.hid ((hx.out.trans0 ((Ext.refl None_ wr).drew.trans0 hx9)))
        clear hx9 hg
        simp only [putAll, v8, Nat.reduceAdd, Nat.zero_add]
        simp only [Act.put, List.setIfInBounds_toArray, List.set_cons_succ, List.set_cons_zero]
        go_wp2_with fail
        go_roundw
        case rel => exact ⟨i + 1, by go_num, by omega, X⟩
        case measure => simp [intOf]; omega
    · obtain rfl : i = l.length := by omega
      go_wp2_with fail
      go_ret
      exact ⟨rfl, hx.out⟩
set_option maxRecDepth 100000 in
set_option maxHeartbeats 8000000 in
theorem Message_any (q : Msg) (A B : Option Addr) (c d : Nat) (w : World) (hA : Row w A (entV q.es)) (hB : Row w B (entV q.es)) (hl : q.es.length ≤ 5864062014805) : Calls Try.prog 12 #[.agg (msgC q A c), .agg (msgC q B d)] w fun e w' => e = .returned (.bool true) ∧ Ext None_ w w' := by
  obtain ⟨k, f, t, tm, ix, at_, cm, yes, es, snap⟩ := q
  have HE := Lib.hid (fun (W : World) (hx : Ext None_ w W) => Entries_any es A B c d W (Row.ext0 hA hx) (Row.ext0 hB hx) hl)
  clear hA hB
  go_enter Try.func12, Try.ntmps12
  go_wp2_with (go_at_call 26; refine (HE.out _ ((x0 w _).trans0 (x0 _ _))).mono ?_; rintro e w1 ⟨rfl, hx⟩; have X := Lib.hid hx; clear hx)
  go_ret
  exact ⟨rfl, ((x0 w _).trans0 (x0 _ _)).trans0 X.out⟩
end Go.Proofs.Ythjabbheobpoeaa
