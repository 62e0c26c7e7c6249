/- Package disk, walked: Crash. Written by gen_disk10.py. -/
import Derived.Test.YtghkgfeamijefaaDisk9
set_option linter.unusedVariables false
set_option linter.unusedSimpArgs false
namespace Go.Proofs.Ytghkgfeamijefaa
open Go.RowKit B
/-- Is change k kept? -/
def bitK (keep : Int) (k : Nat) : Bool := decide ((keep / 2 ^ (k % 60)) % 2 = 1)
theorem andi_one (x : Int) : Go.bits .and .i64 x 1 = x % 2 := by
  show IntKind.i64.wrap (((BitVec.ofInt 64 x) &&& (BitVec.ofInt 64 1)).toNat : Int) = _
  rw [show BitVec.ofInt 64 1 = 1#64 from rfl, BitVec.toNat_and, show (1#64).toNat = 1 from rfl, Nat.and_one_is_mod, BitVec.toNat_ofInt]
  have h : ((x % ((2 ^ 64 : Nat) : Int)).toNat % 2 : Nat) = (x % 2).toNat := by omega
  rw [h]
  have : 0 ≤ x % 2 ∧ x % 2 < 2 := by omega
  rw [IntWalk.i64_in _ (by omega)]
  omega
theorem bit_one (keep : Int) (k : Nat) : (Go.bits .and .i64 (keep / 2 ^ (k % 60)) 1 == 1) = bitK keep k := by
  rw [andi_one, bitK]
  by_cases h : keep / 2 ^ (k % 60) % 2 = 1 <;> simp [h]
theorem bit_zero (keep : Int) (k : Nat) : (Go.bits .and .i64 (keep / 2 ^ (k % 60)) 1 == 0) = !bitK keep k := by
  rw [andi_one, bitK]
  have : keep / 2 ^ (k % 60) % 2 = 0 ∨ keep / 2 ^ (k % 60) % 2 = 1 := by omega
  rcases this with h | h <;> simp [h]
theorem cut_hm {P : Program} (t e size : Nat) {b : Nat} {z : Option Value} (ht : P.underlying t = some (.slice e)) (hinfo : (P.info? e).map (fun i => (i.zero, i.size, i.bytes)) = some (z, size, b)) (A : Option Addr) (n c : Nat) (h m : Int) (h1 : 0 ≤ h) (h2 : h ≤ m) (h3 : m ≤ c) :
    ∃ A', A' = (if m.toNat = 0 then A else A.map (·.add (0 * size))) ∧ ∀ W : World, (Instr.slice t (.slice A n c) none (some (.int .i64 h)) (some (.int .i64 m))).run P W = .ok (.slice A' h.toNat m.toNat) W := by
  obtain ⟨i0, hi0, hzz⟩ := Option.map_eq_some_iff.1 hinfo
  simp only [Prod.mk.injEq] at hzz
  refine ⟨_, rfl, fun W => ?_⟩
  have hel : P.elem t = e := by simp [Program.elem, ht]
  have hu : P.underlying t = some (.slice (P.elem t)) := by rw [hel]; exact ht
  rw [run_slice_hm W t A n c hu .i64 .i64 h m h1 h2 h3, hel]
  simp [sizeOf, typeInfo, hi0, hzz.2.1, sliced, Result.andThen]
theorem opSliceOp {P : Program} {o : Oper} {a : Act} {w : World} {K : Act → World → Prop} {Q : Exit → Act → World → Prop} {p : Value → World → Prop} (hK : ∀ v w', p v w' → Ext None_ w w' → K (a.put o.dst v) w') {t : TypeId} {x : Operand} {l h m : Option Operand} (ho : o.op = .slice t x l h m) {v : Value} {vx : Value} {vl vh vm : Option Value} (hx : a.eval x = vx) (hl : l.map a.eval = vl) (hh : h.map a.eval = vh) (hm : m.map a.eval = vm) {e : TypeId} (ht : P.underlying t = some (.slice e)) (hr : ∀ W : World, (Instr.slice t vx vl vh vm).run P W = .ok v W) (hp : p v w) : o.wp P a w K Q := by
  refine opVal hK ?_ hp
  unfold execOp
  have h2 : Sem.run P (Instr.sliceAt t vx vl vh vm) w = .ok v w := by
    unfold Instr.sliceAt
    rw [Sem.run_bind, run_underlying ht w]
    exact hr w
  simp only [ho, hx, hl, hh, hm]
  simp [h2]
def lastK (keep : Int) : Nat → Int
  | 0 => -1
  | n + 1 => if bitK keep n = true then (n : Int) else lastK keep n
/-- What is left of a torn change. -/
def tornP (torn last : Int) (k : Nat) (p : List Int) : List Int := if (k : Int) = last ∧ 0 ≤ torn ∧ torn < p.length then p.take torn.toNat else p
def crStep (keep torn last : Int) (fs : List (List Int)) (k : Nat) (c : Chg) : List (List Int) :=
  if bitK keep k = true then (if c.cut = true then (if c.at_ ≤ (fileAt fs c.file).length then fs.set c.file ((fileAt fs c.file).take c.at_) else fs) else fs.set c.file (wrF (fileAt fs c.file) c.at_ (tornP torn last k c.p))) else fs
def crN (keep torn last : Int) (ch : List Chg) (fs : List (List Int)) : Nat → List (List Int)
  | 0 => fs
  | k + 1 => match ch[k]? with | some c => crStep keep torn last (crN keep torn last ch fs k) k c | none => crN keep torn last ch fs k
theorem crN_succ {keep torn last : Int} {ch : List Chg} {fs : List (List Int)} {k : Nat} {q : Chg} (h : ch[k]? = some q) : crN keep torn last ch fs (k + 1) = crStep keep torn last (crN keep torn last ch fs k) k q := by
  simp only [crN, h]
def outD (q : Int) (fs : List (List Int)) : DS := ⟨q, fs, List.replicate 64 [], [], 0, false⟩
def crashD (D : DS) (keep torn : Int) : DS := { emptyD D.quota with files := crN keep torn (lastK keep D.wait.length) D.wait D.safe D.wait.length, safe := crN keep torn (lastK keep D.wait.length) D.wait D.safe D.wait.length }
theorem DiskAt.monoC {w : World} {M C C1 : Nat → Prop} {g : Nat} {D : DS} (h : DiskAt w M C g D) (hc : ∀ k, C k → C1 k) (h1 : ∀ k, C1 k → k < w.heap.size ∧ ¬ M k) : DiskAt w M C1 g D := by
  obtain ⟨k, ⟨bf, bs, wv, a1, a2, a3, a4, a5, a6, a7⟩, k3, k4, k5⟩ := h
  exact ⟨k, ⟨bf, bs, wv, a1, a2.mono (fun _ _ h => hc _ h), a3.mono (fun _ _ h => hc _ h), a4.mono (fun _ _ h => hc _ h) (fun _ _ h => h), a5, a6, a7⟩, fun q hq => (h1 q hq).2, k4, fun q hq => (h1 q hq).1⟩
/-- A table that was copied over the files, or over what is safe. -/
theorem DiskAt.copyFiles {w w2 : World} {M C : Nat → Prop} {g : Nat} {D : DS} {fs : List (List Int)} (h : DiskAt w M C g D) {bf : Nat} (c1 : w.cell? ⟨g, 1, none⟩ = some (.slice (some ⟨bf, 0, none⟩) 64 64)) (hf : Fls w2 C bf fs) (h64 : fs.length = 64) (hl : ∀ l ∈ fs, l.length ≤ 1048576) (hx : Ext (fun k => k = bf) w w2) : DiskAt w2 M C g { D with files := fs } ∧ Ext M w w2 := by
  obtain ⟨k, ⟨bf', bs', wv, a1, a2, a3, a4, a5, a6, a7⟩, k3, k4, k5⟩ := h
  have e1 := a1.cell 1
  rw [c1] at e1
  obtain rfl : bf = bf' := by simpa using e1
  have hC : ∀ k, C k → ¬ k = bf := fun k hk e => k3 k hk (e ▸ a6.2.1)
  exact ⟨⟨⟨k.q0, k.q1, h64, k.s64, hl, k.sl, k.a0, k.a1, k.chg⟩, ⟨bf, bs', wv, a1.ext hx a5.1, hf, a3.ext hx (fun e => a5.2.2 e.symm) hC, a4.ext hx (fun k hk => (a7 k hk).2.1) hC, a5, a6, a7⟩, k3, fun k hk => Nat.lt_of_lt_of_le (k4 k hk) hx.size, fun k hk => Nat.lt_of_lt_of_le (k5 k hk) hx.size⟩, hx.mono (fun k _ e => e ▸ a6.2.1)⟩
theorem DiskAt.copySafe {w w2 : World} {M C : Nat → Prop} {g : Nat} {D : DS} (h : DiskAt w M C g D) {bs : Nat} (c2 : w.cell? ⟨g, 2, none⟩ = some (.slice (some ⟨bs, 0, none⟩) 64 64)) (hf : Fls w2 C bs D.files) (hx : Ext (fun k => k = bs) w w2) : DiskAt w2 M C g { D with safe := D.files } ∧ Ext M w w2 := by
  obtain ⟨k, ⟨bf', bs', wv, a1, a2, a3, a4, a5, a6, a7⟩, k3, k4, k5⟩ := h
  have e1 := a1.cell 2
  rw [c2] at e1
  obtain rfl : bs = bs' := by simpa using e1
  have hC : ∀ k, C k → ¬ k = bs := fun k hk e => k3 k hk (e ▸ a6.2.2)
  exact ⟨⟨⟨k.q0, k.q1, k.f64, k.f64, k.fl, k.fl, k.a0, k.a1, k.chg⟩, ⟨bf', bs, wv, a1.ext hx a5.2.1, a2.ext hx a5.2.2 hC, hf, a4.ext hx (fun k hk => (a7 k hk).2.2) hC, a5, a6, a7⟩, k3, fun k hk => Nat.lt_of_lt_of_le (k4 k hk) hx.size, fun k hk => Nat.lt_of_lt_of_le (k5 k hk) hx.size⟩, hx.mono (fun k _ e => e ▸ a6.2.2)⟩
theorem add_fld (ad : Addr) (n k : Nat) (h : 0 < k) : (⟨(ad.add n).block, (ad.add n).off + k, none⟩ : Addr) = ad.add (n + k) := by
  unfold Addr.add
  by_cases hn : n = 0
  · simp [hn]; omega
  · simp [hn, Nat.add_assoc]
/-- One change where it waits. -/
theorem Wts.chg {w : World} {C M : Nat → Prop} {A : Option Addr} {n c : Nat} {ch : List Chg} (h : Wts w C M (.slice A n c) ch) {k : Nat} (hk : k < ch.length) : ∃ ad B cb, A = some ad ∧ (w.cell? (ad.add (k * 4)) = some (.bool ch[k].cut) ∧ w.cell? ⟨(ad.add (k * 4)).block, (ad.add (k * 4)).off + 1, none⟩ = some (.int .i64 ch[k].file) ∧ w.cell? ⟨(ad.add (k * 4)).block, (ad.add (k * 4)).off + 2, none⟩ = some (.int .i64 ch[k].at_) ∧ w.cell? ⟨(ad.add (k * 4)).block, (ad.add (k * 4)).off + 3, none⟩ = some (.slice B ch[k].p.length cb)) ∧ Sl w C (.slice B ch[k].p.length cb) ch[k].p := by
  obtain ⟨pv, h1, h2, h3⟩ := h
  obtain ⟨A', c', e, _, _, hr⟩ := Own.slice h2
  obtain ⟨rfl, _, _⟩ : A = A' ∧ n = ch.length ∧ c = c' := by simpa using e
  have hp : k < pv.length := by omega
  have hs := h3 k ch[k] pv[k] (List.getElem?_eq_getElem hk) (List.getElem?_eq_getElem hp)
  have hs' := hs
  obtain ⟨B, cb, hv, _⟩ := hs'
  rw [hv] at hs
  have hz : ∀ (l : List (Chg × Value)) (i j : Nat), j < 4 → (l.flatMap fun q => chgV q.1 q.2)[i * 4 + j]? = (l[i]?).bind fun q => (chgV q.1 q.2)[j]? := by
    intro l
    induction l with
    | nil => intro i j _; simp
    | cons x r ih =>
      intro i j hj
      rw [List.flatMap_cons]
      cases i with
      | zero =>
        rw [List.getElem?_append_left (by simp [chgV]; omega)]
        simp
      | succ i =>
        rw [List.getElem?_append_right (by simp [chgV]; omega)]
        have := ih i j hj
        simp only [chgV, List.length_cons, List.length_nil, List.getElem?_cons_succ] at this ⊢
        rw [← this]
        congr 1
        omega
  have hzk : (ch.zip pv)[k]? = some (ch[k], pv[k]) := by
    rw [List.getElem?_zip_eq_some]
    exact ⟨List.getElem?_eq_getElem hk, List.getElem?_eq_getElem hp⟩
  have hg : ∀ j v, j < 4 → (chgV ch[k] pv[k])[j]? = some v → ∃ ad, A = some ad ∧ w.cell? (ad.add (k * 4 + j)) = some v := fun j v hj hv => hr _ _ (by rw [hz _ _ _ hj, hzk]; exact hv)
  obtain ⟨ad, rfl, g0⟩ := hg 0 _ (by omega) rfl
  obtain ⟨a1, e1, g1⟩ := hg 1 _ (by omega) rfl
  obtain ⟨a2, e2, g2⟩ := hg 2 _ (by omega) rfl
  obtain ⟨a3, e3, g3⟩ := hg 3 _ (by omega) rfl
  cases e1
  cases e2
  cases e3
  exact ⟨ad, B, cb, rfl, ⟨g0, by rw [add_fld _ _ _ (by omega), g1], by rw [add_fld _ _ _ (by omega), g2], by rw [add_fld _ _ _ (by omega), g3, hv]⟩, hs⟩
set_option maxRecDepth 100000 in
set_option maxHeartbeats 16000000 in
theorem DCrash_any (g : Nat) (D : DS) (M C : Nat → Prop) (keep torn : Int) (w : World) (h : DiskAt w M C g D) (hk : I64 keep) (hwl : D.wait.length ≤ 1099511627776) : Calls Try.prog 23 #[.pointer (some ⟨g, 0, none⟩), .int .i64 keep, .int .i64 torn] w fun e w' => ∃ g', e = .returned (.pointer (some ⟨g', 0, none⟩)) ∧ (∃ M' C', DiskAt w' M' C' g' (crashD D keep torn) ∧ (∀ k, M' k → w.heap.size ≤ k) ∧ (∀ k, C' k → C k ∨ w.heap.size ≤ k)) ∧ Ext None_ w w' := by
  obtain ⟨bf, bs, A, c, ⟨c0, c1, c2, c3, c4, c5⟩, cf, _⟩ := h.cells
  have HF := fun W => fresh_any D.quota W h.ok.q0 h.ok.q1
  have HD := Lib.hid h
  clear h
  go_enter Try.func23, Try.ntmps23
  go_wp2_with (go_at_call 49; refine (HF _).mono ?_; rintro e wA ⟨g', rfl, hd, hx⟩; have HD2 := Lib.hid hd; have HX := Lib.hid hx; clear hd hx)
  have HDA := Lib.hid (HD.out.ext0 HX.out)
  have HD3 := Lib.hid (HD2.out.monoC (C1 := C) (fun _ a => a.elim) (fun k hk => ⟨Nat.lt_of_lt_of_le (HD.out.clt k hk) HX.out.size, fun hm => by have := HD.out.clt k hk; omega⟩))
  obtain ⟨bf2, bs2, A3, c3', ⟨d0, d1, d2, d3, d4, d5⟩, df, _⟩ := HD3.out.cells
  have e2 := HX.out.cell c2 (fun a => a)
  have e3 := HX.out.cell c3 (fun a => a)
  have e1 := HX.out.cell c1 (fun a => a)
  have HC3 := Lib.hid c3
  clear HF c0 c1 c2 c3 c4 c5 cf d0 d3 d4 d5 HD2
  refine wp_region_last [sv _, sv _, sv _, sv _, sv _, sv _, sv _, sv _] (by kernel_rfl) rfl rfl rfl rfl rfl (by decide) ⟨
    (by
      intro Lq aq wq hd hj Kq hK
      rw [if_pos (wanted_none rfl)]
      have f7 := hj.base 7 rfl rfl
      exact opMove hK rfl (ev f7) rfl),
    (by
      intro Lq aq wq hd hj Kq hK
      rw [if_pos (wanted_none rfl)]
      have f19 := hj.val 0 19 rfl rfl (by simp) rfl (hd ⟨0, .data⟩ (by simp) rfl)
      exact opNil hK rfl (ev f19) rfl),
    (by
      intro Lq aq wq hd hj Kq hK
      rw [if_pos (wanted_none rfl)]
      have f20 := hj.val 1 20 rfl rfl (by simp) rfl (hd ⟨1, .data⟩ (by simp) rfl)
      exact opFieldA hK rfl (k := 1) (ev f20) (fun W => by kernel_rfl) rfl),
    (by
      intro Lq aq wq hd hj Kq hK
      rw [if_pos (wanted_none rfl)]
      have f21 := hj.val 2 21 rfl rfl (by simp) rfl (hd ⟨2, .data⟩ (by simp) rfl)
      first
        | exact opLoad hK rfl (ev f21) Try.underlying59 rfl (Ext.cell ((Ext.refl None_ wA).drew.trans0 hj.ext) d1 (fun a => a)) rfl
        | exact opLoad hK rfl (ev f21) Try.underlying59 rfl (Ext.cell ((Ext.refl None_ wA).drew.trans0 hj.ext) e2 (fun a => a)) rfl),
    (by
      intro Lq aq wq hd hj Kq hK
      rw [if_pos (wanted_none rfl)]
      have f0 := hj.base 0 rfl rfl
      exact opMove hK rfl (ev f0) rfl),
    (by
      intro Lq aq wq hd hj Kq hK
      rw [if_pos (wanted_none rfl)]
      have f23 := hj.val 4 23 rfl rfl (by simp) rfl (hd ⟨4, .data⟩ (by simp) rfl)
      exact opNil hK rfl (ev f23) rfl),
    (by
      intro Lq aq wq hd hj Kq hK
      rw [if_pos (wanted_none rfl)]
      have f24 := hj.val 5 24 rfl rfl (by simp) rfl (hd ⟨5, .data⟩ (by simp) rfl)
      exact opFieldA hK rfl (k := 2) (ev f24) (fun W => by kernel_rfl) rfl),
    (by
      intro Lq aq wq hd hj Kq hK
      rw [if_pos (wanted_none rfl)]
      have f25 := hj.val 6 25 rfl rfl (by simp) rfl (hd ⟨6, .data⟩ (by simp) rfl)
      first
        | exact opLoad hK rfl (ev f25) Try.underlying59 rfl (Ext.cell ((Ext.refl None_ wA).drew.trans0 hj.ext) d1 (fun a => a)) rfl
        | exact opLoad hK rfl (ev f25) Try.underlying59 rfl (Ext.cell ((Ext.refl None_ wA).drew.trans0 hj.ext) e2 (fun a => a)) rfl),
    trivial⟩ ?fin
  case fin =>
    intro vs wB hx hg
    have v3 : vs 3 = _ := hg 3 (by decide)
    have v7 : vs 7 = _ := hg 7 (by decide)
    have X := Lib.hid ((Ext.refl None_ wA).drew.trans0 hx)
    clear hx hg
    simp only [List.dropLast, List.getLast?, List.getLast, Option.toList, putAll, v3, v7, Nat.reduceAdd, Nat.zero_add]
    simp only [Act.put, List.setIfInBounds_toArray, List.set_cons_succ, List.set_cons_zero]
    have t1 := HDA.out.ext0 X.out
    have t2 := HD3.out.ext0 X.out
    have k1 := X.out.cell d1 (fun a => a)
    have k2 := X.out.cell d2 (fun a => a)
    have k3 := X.out.cell e3 (fun a => a)
    refine wpList_copy_tab (by rfl) (.tmp 22) (.tmp 26) (by rfl) bf2 bs (by rfl) (by rfl) (t1.tabs (X.out.cell e1 (fun a => a)) (X.out.cell e2 (fun a => a))).2.1 (t2.tabs k1 k2).1 t1.ok.s64 t2.ok.f64 (fun hc => t2.apart _ hc (t2.tabs k1 k2).2.2.2.1) ?_
    intro wC hfl _ hxC
    obtain ⟨hy1, hy2⟩ := t2.copyFiles k1 hfl t1.ok.s64 t1.ok.sl hxC
    have hbf2 : w.heap.size ≤ bf2 := ((HD3.out.tabs d1 d2).2.2.2.1).1
    have hgw : g < w.heap.size := HD.out.lt
    have m3 := hxC.cell k3 (by simp; omega)
    have fXC : Ext None_ w wC := ((HX.out.trans0 X.out).trans hxC (fun k hk e => by subst e; omega)).mono (fun _ _ a => a)
    have HY : Hid (DiskAt wC (fun k => w.heap.size ≤ k ∧ k < wA.heap.size) C g' (outD D.quota D.safe)) := Lib.hid hy1
    have HDC := Lib.hid (HD.out.ext0 fXC)
    have HXC := Lib.hid fXC
    obtain ⟨n, hn⟩ : ∃ n, n = D.wait.length := ⟨_, rfl⟩
    have HN := Lib.hid hn
    rw [← hn] at hwl m3
    have hxy2 : wA.heap.size ≤ wC.heap.size := Nat.le_trans X.out.size hxC.size
    clear hn hy1 hy2 t1 t2 k1 k2 k3 hfl hxC fXC d1 d2 e1 e2 e3
    go_wp2_with fail
    go_loopw [8, 33] (fun v8 v33 wr => ∃ k : Nat, v8 = .int .i64 (lastK keep k) ∧ v33 = .int .i64 k ∧ k ≤ n ∧ Hid (Ext None_ wC wr)) (fun _ v33 _ => n - (intOf v33).toNat)
    case atStart => exact ⟨0, rfl, rfl, by omega, Lib.hid (Ext.refl _ _)⟩
    case round =>
      obtain ⟨k, rfl, rfl, hk2, hxr⟩ := hrel
      have m3r := hxr.out.cell m3 (fun a => a)
      by_cases hend : k = n
      · have HKN := Lib.hid hend
        subst hend
        go_wp2_with fail
        go_loopw [50] (fun v50 wr2 => ∃ (j : Nat) (C2 : Nat → Prop), v50 = .int .i64 j ∧ j ≤ k ∧ Hid (DiskAt wr2 (fun k => w.heap.size ≤ k ∧ k < wA.heap.size) C2 g' (outD D.quota (crN keep torn (lastK keep k) D.wait D.safe j))) ∧ Hid (∀ k, C2 k → C k ∨ w.heap.size ≤ k) ∧ Hid (Ext None_ w wr2)) (fun v50 _ => k - (intOf v50).toNat)
        case atStart => exact ⟨0, C, rfl, by omega, Lib.hid (HY.out.ext0 hxr.out), Lib.hid (fun _ h => .inl h), Lib.hid (HXC.out.trans0 hxr.out)⟩
        case round =>
          obtain ⟨j, C2, rfl, hj2, hdr, hcr, hxw⟩ := hrel
          by_cases hend2 : j = k
          · subst hend2
            have HDR := hdr
            obtain ⟨bg, bh, Aw, cw, ⟨p0, p1, p2, p3, p4, p5⟩, pf, _⟩ := HDR.out.cells
            go_wp2_with fail
            refine wp_region_last [sv _, sv _, sv _, sv _, sv _, sv _, sv _, sv _] (by kernel_rfl) rfl rfl rfl rfl rfl (by decide) ⟨
              (by
                intro Lq aq wq hd hj Kq hK
                rw [if_pos (wanted_none rfl)]
                have f7 := hj.base 7 rfl rfl
                exact opMove hK rfl (ev f7) rfl),
              (by
                intro Lq aq wq hd hj Kq hK
                rw [if_pos (wanted_none rfl)]
                have f124 := hj.val 0 124 rfl rfl (by simp) rfl (hd ⟨0, .data⟩ (by simp) rfl)
                exact opNil hK rfl (ev f124) rfl),
              (by
                intro Lq aq wq hd hj Kq hK
                rw [if_pos (wanted_none rfl)]
                have f125 := hj.val 1 125 rfl rfl (by simp) rfl (hd ⟨1, .data⟩ (by simp) rfl)
                exact opFieldA hK rfl (k := 2) (ev f125) (fun W => by kernel_rfl) rfl),
              (by
                intro Lq aq wq hd hj Kq hK
                rw [if_pos (wanted_none rfl)]
                have f126 := hj.val 2 126 rfl rfl (by simp) rfl (hd ⟨2, .data⟩ (by simp) rfl)
                first
                  | exact opLoad hK rfl (ev f126) Try.underlying59 rfl (Ext.cell ((Ext.refl None_ wr).drew.trans0 hj.ext) p1 (fun a => a)) rfl
                  | exact opLoad hK rfl (ev f126) Try.underlying59 rfl (Ext.cell ((Ext.refl None_ wr).drew.trans0 hj.ext) p2 (fun a => a)) rfl),
              (by
                intro Lq aq wq hd hj Kq hK
                rw [if_pos (wanted_none rfl)]
                have f7 := hj.base 7 rfl rfl
                exact opMove hK rfl (ev f7) rfl),
              (by
                intro Lq aq wq hd hj Kq hK
                rw [if_pos (wanted_none rfl)]
                have f128 := hj.val 4 128 rfl rfl (by simp) rfl (hd ⟨4, .data⟩ (by simp) rfl)
                exact opNil hK rfl (ev f128) rfl),
              (by
                intro Lq aq wq hd hj Kq hK
                rw [if_pos (wanted_none rfl)]
                have f129 := hj.val 5 129 rfl rfl (by simp) rfl (hd ⟨5, .data⟩ (by simp) rfl)
                exact opFieldA hK rfl (k := 1) (ev f129) (fun W => by kernel_rfl) rfl),
              (by
                intro Lq aq wq hd hj Kq hK
                rw [if_pos (wanted_none rfl)]
                have f130 := hj.val 6 130 rfl rfl (by simp) rfl (hd ⟨6, .data⟩ (by simp) rfl)
                first
                  | exact opLoad hK rfl (ev f130) Try.underlying59 rfl (Ext.cell ((Ext.refl None_ wr).drew.trans0 hj.ext) p1 (fun a => a)) rfl
                  | exact opLoad hK rfl (ev f130) Try.underlying59 rfl (Ext.cell ((Ext.refl None_ wr).drew.trans0 hj.ext) p2 (fun a => a)) rfl),
              trivial⟩ ?fin
            case fin =>
              intro vs3 wm hx hg
              have v3 : vs3 3 = _ := hg 3 (by decide)
              have v7 : vs3 7 = _ := hg 7 (by decide)
              have X3 := Lib.hid ((Ext.refl None_ wr).drew.trans0 hx)
              clear hx hg
              simp only [List.dropLast, List.getLast?, List.getLast, Option.toList, putAll, v3, v7, Nat.reduceAdd, Nat.zero_add]
              simp only [Act.put, List.setIfInBounds_toArray, List.set_cons_succ, List.set_cons_zero]
              have t3 := HDR.out.ext0 X3.out
              have k1 := X3.out.cell p1 (fun a => a)
              have k2 := X3.out.cell p2 (fun a => a)
              have tt := t3.tabs k1 k2
              refine wpList_copy_tab (by rfl) (.tmp 127) (.tmp 131) (by rfl) bh bg (by rfl) (by rfl) tt.1 tt.2.1 t3.ok.f64 t3.ok.s64 (fun hc => t3.apart _ hc tt.2.2.2.2.1) ?_
              intro wz hfz _ hxz
              obtain ⟨hz1, hz2⟩ := t3.copySafe k2 hfz hxz
              have HZ1 := Lib.hid hz1
              have HZ2 := Lib.hid hz2
              clear hz1 hz2 t3 k1 k2 tt hfz hxz
              go_wp2_with fail
              go_ret
              refine ⟨g', rfl, ⟨fun k => w.heap.size ≤ k ∧ k < wA.heap.size, C2, ?_, fun k hk => hk.1, hcr.out⟩, (hxw.out.trans0 X3.out).trans HZ2.out (fun k hk e => by have := e.1; omega)⟩
              unfold crashD
              rw [← HN.out]
              exact HZ1.out
          · have hlt2 : j < k := by omega
            have hjl : j < D.wait.length := by rw [← HN.out]; exact hlt2
            obtain ⟨ad, B, cb, hA, ⟨q0, q1, q2, q3⟩, hsl⟩ := ((HD.out.ext0 hxw.out).waits (hxw.out.cell HC3.out (fun a => a))).1.chg (k := j) hjl
            subst hA
            obtain ⟨q, hq⟩ : ∃ q, q = D.wait[j]'hjl := ⟨_, rfl⟩
            rw [← hq] at q0 q1 q2 q3 hsl
            have HQ : Hid (D.wait[j]? = some q) := Lib.hid (by rw [hq]; exact List.getElem?_eq_getElem hjl)
            have hqk := HD.out.ok.chg q (List.mem_of_getElem? HQ.out)
            obtain ⟨hq64, hqat⟩ := hqk
            obtain ⟨B', cb', hbe, hbr, hbc, _, hbb, hbs⟩ := hsl
            obtain ⟨rfl, _, rfl⟩ : B = B' ∧ q.p.length = q.p.length ∧ cb = cb' := by simpa using hbe
            have HBR := Lib.hid hbr
            have HBY := Lib.hid hbb
            have hb1 := bit_zero keep j
            have HST : Hid (crN keep torn (lastK keep k) D.wait D.safe (j + 1) = crStep keep torn (lastK keep k) (crN keep torn (lastK keep k) D.wait D.safe j) j q) := Lib.hid (crN_succ HQ.out)
            obtain ⟨L, hL⟩ : ∃ L, L = lastK keep k := ⟨_, rfl⟩
            rw [← hL] at hdr HST
            obtain ⟨F, hF⟩ : ∃ F, F = crN keep torn L D.wait D.safe j := ⟨_, rfl⟩
            rw [← hF] at hdr HST
            have HLL := Lib.hid hL
            rw [← hL]
            clear hq hbr hbb hbs hbe hF hL
            cases hbit : bitK keep j with
            | false =>
              rw [hbit] at hb1
              have HS2 : Hid (crStep keep torn L F j q = F) := Lib.hid (by unfold crStep; rw [if_neg (by rw [hbit]; decide)])
              clear hbit
              go_wp2_with fail
              go_roundw
              case rel => exact ⟨j + 1, C2, by go_num, by omega, Lib.hid (by rw [HST.out, HS2.out]; exact hdr.out.ext0 ((Ext.refl None_ _).alloc _)), hcr, Lib.hid (hxw.out.alloc _)⟩
              case measure => simp [intOf]; omega
            | true =>
              rw [hbit] at hb1
              obtain ⟨pp, hpp⟩ : ∃ pp, pp = tornP torn L j q.p := ⟨_, rfl⟩
              have HS2 : Hid (crStep keep torn L F j q = if q.cut = true then (if q.at_ ≤ (fileAt F q.file).length then F.set q.file ((fileAt F q.file).take q.at_) else F) else F.set q.file (wrF (fileAt F q.file) q.at_ pp)) := Lib.hid (by unfold crStep; rw [if_pos hbit, hpp])
              clear hbit
              have hb1' : (Go.bits .and .i64 (keep / 2 ^ (j % 60)) 1 == 0) = false := hb1
              clear hb1
              by_cases ht1 : (j : Int) = L
              · by_cases ht2 : 0 ≤ torn
                · by_cases ht3 : torn < q.p.length
                  · have hpe : pp = q.p.take torn.toNat := by rw [hpp]; unfold tornP; rw [if_pos ⟨ht1, ht2, ht3⟩]
                    have hk1 : ((j : Int) == L) = true := by simp [ht1]
                    clear ht1
                    go_wp2_with fail
                    obtain ⟨wl, hwl⟩ : ∃ wl, wl = wr.alloc (.cells #[.bool q.cut, .int .i64 q.file, .int .i64 q.at_, .slice B q.p.length cb] 81) := ⟨_, rfl⟩
                    rw [← hwl]
                    have hbl : Blk wl wr.heap.size #[.bool q.cut, .int .i64 q.file, .int .i64 q.at_, .slice B q.p.length cb] 81 := hwl ▸ Blk.new wr _ _
                    have l0 := hbl.cell 0
                    have l1 := hbl.cell 1
                    have l2 := hbl.cell 2
                    have HXL : Hid (Ext None_ wr wl) := Lib.hid (hwl ▸ (Ext.refl None_ wr).alloc _)
                    have HDL := Lib.hid (hdr.out.ext0 HXL.out)
                    have HPR : Hid (∀ W, Ext None_ wl W → Row W B (B8 pp)) := Lib.hid (fun W hx => by rw [hpe]; have := ((HBR.out.ext0 HXL.out).ext0 hx).take torn.toNat; simpa [B8, List.map_take] using this)
                    have HPB : Hid (Byt pp) := Lib.hid (by rw [hpe]; first | exact HBY.out | exact fun x hx => HBY.out x (List.mem_of_mem_take hx))
                    have hppl : pp.length = torn.toNat := by subst hpe; first | rfl | (rw [List.length_take]; omega)
                    have hppm : q.at_ + pp.length ≤ 1048576 := by rw [hppl]; omega
                    rw [← hppl]
                    clear hwl hbl hpe hpp q0 q1 q2 q3 m3 m3r hb1'
                    obtain ⟨f, hf⟩ : ∃ f, f = fileAt F q.file := ⟨_, rfl⟩
                    have HFF := Lib.hid hf
                    rw [← hf] at HS2
                    obtain ⟨bg, bh, Aw, cw, A1, cc1, ⟨d0, d1, d2, d3⟩, dg, dfb, hc1, HR1, hcc1, HBY1, hll⟩ := HDL.out.fileN (l := f) (n := q.file) hf hq64
                    clear hf
                    refine wp_region_mem [sv _, sv _, sv _, sv _, sv _, sv _, sv _, sv _, sv _] (by kernel_rfl) rfl rfl rfl rfl ⟨
                      (by
                        intro Lq aq wq hd hj Kq hK
                        rw [if_pos (wanted_none rfl)]
                        have f7 := hj.base 7 rfl rfl
                        exact opMove hK rfl (ev f7) rfl),
                      (by
                        intro Lq aq wq hd hj Kq hK
                        rw [if_pos (wanted_none rfl)]
                        have f80 := hj.val 0 80 rfl rfl (by simp) rfl (hd ⟨0, .data⟩ (by simp) rfl)
                        exact opNil hK rfl (ev f80) rfl),
                      (by
                        intro Lq aq wq hd hj Kq hK
                        rw [if_pos (wanted_none rfl)]
                        have f81 := hj.val 1 81 rfl rfl (by simp) rfl (hd ⟨1, .data⟩ (by simp) rfl)
                        exact opFieldA hK rfl (k := 1) (ev f81) (fun W => by kernel_rfl) rfl),
                      (by
                        intro Lq aq wq hd hj Kq hK
                        rw [if_pos (wanted_none rfl)]
                        have f82 := hj.val 2 82 rfl rfl (by simp) rfl (hd ⟨2, .data⟩ (by simp) rfl)
                        first
                          | exact opLoad hK rfl (ev f82) Try.underlying59 rfl (Ext.cell ((Ext.refl None_ wl).drew.trans0 hj.ext) d1 (fun a => a)) rfl
                          | exact opLoad hK rfl (ev f82) Try.underlying59 rfl (Ext.cell ((Ext.refl None_ wl).drew.trans0 hj.ext) l1 (fun a => a)) rfl
                          | exact opLoad hK rfl (ev f82) Try.underlying59 rfl (Ext.cell ((Ext.refl None_ wl).drew.trans0 hj.ext) hc1 (fun a => a)) rfl),
                      (by
                        intro Lq aq wq hd hj Kq hK
                        rw [if_pos (wanted_none rfl)]
                        have f11 := hj.base 11 rfl rfl
                        exact opFieldA hK rfl (k := 1) (ev f11) (fun W => by kernel_rfl) rfl),
                      (by
                        intro Lq aq wq hd hj Kq hK
                        rw [if_pos (wanted_none rfl)]
                        have f84 := hj.val 4 84 rfl rfl (by simp) rfl (hd ⟨4, .data⟩ (by simp) rfl)
                        first
                          | exact opLoad hK rfl (ev f84) Try.underlying3 rfl (Ext.cell ((Ext.refl None_ wl).drew.trans0 hj.ext) d1 (fun a => a)) rfl
                          | exact opLoad hK rfl (ev f84) Try.underlying3 rfl (Ext.cell ((Ext.refl None_ wl).drew.trans0 hj.ext) l1 (fun a => a)) rfl
                          | exact opLoad hK rfl (ev f84) Try.underlying3 rfl (Ext.cell ((Ext.refl None_ wl).drew.trans0 hj.ext) hc1 (fun a => a)) rfl),
                      (by
                        intro Lq aq wq hd hj Kq hK
                        rw [if_pos (wanted_none rfl)]
                        have f83 := hj.val 3 83 rfl rfl (by simp) rfl (hd ⟨3, .data⟩ (by simp) rfl)
                        have f85 := hj.val 5 85 rfl rfl (by simp) rfl (hd ⟨5, .data⟩ (by simp) rfl)
                        exact opIndexB hK rfl (j := q.file) (ev f83) (ev f85) Try.underlying59 infoSl (by omega) (by omega) (by simp) rfl),
                      (by
                        intro Lq aq wq hd hj Kq hK
                        rw [if_pos (wanted_none rfl)]
                        have f86 := hj.val 6 86 rfl rfl (by simp) rfl (hd ⟨6, .data⟩ (by simp) rfl)
                        first
                          | exact opLoad hK rfl (ev f86) Try.underlying22 rfl (Ext.cell ((Ext.refl None_ wl).drew.trans0 hj.ext) d1 (fun a => a)) rfl
                          | exact opLoad hK rfl (ev f86) Try.underlying22 rfl (Ext.cell ((Ext.refl None_ wl).drew.trans0 hj.ext) l1 (fun a => a)) rfl
                          | exact opLoad hK rfl (ev f86) Try.underlying22 rfl (Ext.cell ((Ext.refl None_ wl).drew.trans0 hj.ext) hc1 (fun a => a)) rfl),
                      (by
                        intro Lq aq wq hd hj Kq hK
                        rw [if_pos (wanted_none rfl)]
                        have f87 := hj.val 7 87 rfl rfl (by simp) rfl (hd ⟨7, .data⟩ (by simp) rfl)
                        exact opAssign hK rfl (ev f87) rfl),
                      trivial⟩ ?fin
                    case fin =>
                      intro vs3 wm hx hg
                      have v8 : vs3 8 = _ := hg 8 (by decide)
                      have X3 := Lib.hid ((Ext.refl None_ wl).drew.trans0 hx)
                      clear hx hg
                      simp only [putAll, v8, Nat.reduceAdd, Nat.zero_add]
                      simp only [Act.put, List.setIfInBounds_toArray, List.set_cons_succ, List.set_cons_zero]
                      have k1 := X3.out.cell d1 (fun a => a)
                      have k2 := X3.out.cell d2 (fun a => a)
                      have kc := X3.out.cell hc1 (fun a => a)
                      have n0 := X3.out.cell l0 (fun a => a)
                      have n1 := X3.out.cell l1 (fun a => a)
                      have n2 := X3.out.cell l2 (fun a => a)
                      have kfb : ∀ i, wm.frozen? ⟨bg, i, none⟩ = false := fun i => by
                        have hh := X3.out.block bg (World.block_lt_of_cell? wl ⟨bg, q.file, none⟩ hc1) (fun a => a)
                        have h0 := dfb i
                        simp only [World.frozen?, hh] at h0 ⊢
                        exact h0
                      have HDM := Lib.hid (HDL.out.ext0 X3.out)
                      have HXM : Hid (Ext None_ w wm) := Lib.hid ((hxw.out.trans0 HXL.out).trans0 X3.out)
                      clear d0 d1 d2 d3 hc1 l0 l1 l2 dfb
                      cases hcut : q.cut with
                      | false =>
                        rw [hcut] at n0
                        have HS3 : Hid (crStep keep torn L F j q = F.set q.file (wrF f q.at_ pp)) := Lib.hid (by rw [HS2.out, if_neg (by rw [hcut]; decide)])
                        clear hcut
                        go_wp2_with fail
                        refine wp_region_last [sv _, sv _, sv _, sv _, sv _, sv _, sv _, sv _, sv _, sv _, sB (fun k => wm.heap.size ≤ k) (wrF f q.at_ pp), sv _] (by kernel_rfl) rfl rfl rfl rfl rfl (by decide) ⟨
                          (by
                            intro Lq aq wq hd hj Kq hK
                            rw [if_pos (wanted_none rfl)]
                            have f7 := hj.base 7 rfl rfl
                            exact opMove hK rfl (ev f7) rfl),
                          (by
                            intro Lq aq wq hd hj Kq hK
                            rw [if_pos (wanted_none rfl)]
                            have f92 := hj.val 0 92 rfl rfl (by simp) rfl (hd ⟨0, .data⟩ (by simp) rfl)
                            exact opNil hK rfl (ev f92) rfl),
                          (by
                            intro Lq aq wq hd hj Kq hK
                            rw [if_pos (wanted_none rfl)]
                            have f93 := hj.val 1 93 rfl rfl (by simp) rfl (hd ⟨1, .data⟩ (by simp) rfl)
                            exact opFieldA hK rfl (k := 1) (ev f93) (fun W => by kernel_rfl) rfl),
                          (by
                            intro Lq aq wq hd hj Kq hK
                            rw [if_pos (wanted_none rfl)]
                            have f94 := hj.val 2 94 rfl rfl (by simp) rfl (hd ⟨2, .data⟩ (by simp) rfl)
                            first
                              | exact opLoad hK rfl (ev f94) Try.underlying59 rfl (Ext.cell ((Ext.refl None_ wm).drew.trans0 hj.ext) k1 (fun a => a)) rfl
                              | exact opLoad hK rfl (ev f94) Try.underlying59 rfl (Ext.cell ((Ext.refl None_ wm).drew.trans0 hj.ext) n1 (fun a => a)) rfl
                              | exact opLoad hK rfl (ev f94) Try.underlying59 rfl (Ext.cell ((Ext.refl None_ wm).drew.trans0 hj.ext) n2 (fun a => a)) rfl),
                          (by
                            intro Lq aq wq hd hj Kq hK
                            rw [if_pos (wanted_none rfl)]
                            have f11 := hj.base 11 rfl rfl
                            exact opFieldA hK rfl (k := 1) (ev f11) (fun W => by kernel_rfl) rfl),
                          (by
                            intro Lq aq wq hd hj Kq hK
                            rw [if_pos (wanted_none rfl)]
                            have f96 := hj.val 4 96 rfl rfl (by simp) rfl (hd ⟨4, .data⟩ (by simp) rfl)
                            first
                              | exact opLoad hK rfl (ev f96) Try.underlying3 rfl (Ext.cell ((Ext.refl None_ wm).drew.trans0 hj.ext) k1 (fun a => a)) rfl
                              | exact opLoad hK rfl (ev f96) Try.underlying3 rfl (Ext.cell ((Ext.refl None_ wm).drew.trans0 hj.ext) n1 (fun a => a)) rfl
                              | exact opLoad hK rfl (ev f96) Try.underlying3 rfl (Ext.cell ((Ext.refl None_ wm).drew.trans0 hj.ext) n2 (fun a => a)) rfl),
                          (by
                            intro Lq aq wq hd hj Kq hK
                            rw [if_pos (wanted_none rfl)]
                            have f13 := hj.base 13 rfl rfl
                            exact opMove hK rfl (ev f13) rfl),
                          (by
                            intro Lq aq wq hd hj Kq hK
                            rw [if_pos (wanted_none rfl)]
                            have f11 := hj.base 11 rfl rfl
                            exact opFieldA hK rfl (k := 2) (ev f11) (fun W => by kernel_rfl) rfl),
                          (by
                            intro Lq aq wq hd hj Kq hK
                            rw [if_pos (wanted_none rfl)]
                            have f99 := hj.val 7 99 rfl rfl (by simp) rfl (hd ⟨7, .data⟩ (by simp) rfl)
                            first
                              | exact opLoad hK rfl (ev f99) Try.underlying3 rfl (Ext.cell ((Ext.refl None_ wm).drew.trans0 hj.ext) k1 (fun a => a)) rfl
                              | exact opLoad hK rfl (ev f99) Try.underlying3 rfl (Ext.cell ((Ext.refl None_ wm).drew.trans0 hj.ext) n1 (fun a => a)) rfl
                              | exact opLoad hK rfl (ev f99) Try.underlying3 rfl (Ext.cell ((Ext.refl None_ wm).drew.trans0 hj.ext) n2 (fun a => a)) rfl),
                          (by
                            intro Lq aq wq hd hj Kq hK
                            rw [if_pos (wanted_none rfl)]
                            have f12 := hj.base 12 rfl rfl
                            exact opMove hK rfl (ev f12) rfl),
                          (by
                            intro Lq aq wq hd hj Kq hK
                            rw [if_pos (wanted_none rfl)]
                            have f98 := hj.val 6 98 rfl rfl (by simp) rfl (hd ⟨6, .data⟩ (by simp) rfl)
                            have f100 := hj.val 8 100 rfl rfl (by simp) rfl (hd ⟨8, .data⟩ (by simp) rfl)
                            have f101 := hj.val 9 101 rfl rfl (by simp) rfl (hd ⟨9, .data⟩ (by simp) rfl)
                            exact opCall hK Try.func53 (by kernel_rfl) rfl (args := #[.slice A1 f.length cc1, .int .i64 q.at_, .slice B pp.length cb]) (by simp [ev f98, ev f100, ev f101]) ((written_any A1 cc1 f q.at_ B cb pp _ ((HR1.out.ext0 X3.out).ext0 ((Ext.refl None_ wm).drew.trans0 hj.ext)) (HPR.out _ (X3.out.trans0 ((Ext.refl None_ wm).drew.trans0 hj.ext))) hll (by omega) (by omega)).mono fun e w' ⟨v', h1, h2, h3⟩ => ⟨v', h1, OwnB.mono h2 (fun k _ hk => Nat.le_trans (Ext.size ((Ext.refl None_ wm).drew.trans0 hj.ext)) hk), h3⟩)),
                          (by
                            intro Lq aq wq hd hj Kq hK
                            rw [if_pos (wanted_none rfl)]
                            have f95 := hj.val 3 95 rfl rfl (by simp) rfl (hd ⟨3, .data⟩ (by simp) rfl)
                            have f97 := hj.val 5 97 rfl rfl (by simp) rfl (hd ⟨5, .data⟩ (by simp) rfl)
                            exact opIndexB hK rfl (j := q.file) (ev f95) (ev f97) Try.underlying59 infoSl (by omega) (by omega) (by simp) rfl),
                          trivial⟩ ?fin
                        case fin =>
                          intro vs4 wT hx hg
                          have v11 : vs4 11 = .pointer (some ⟨bg, q.file, none⟩) := hg 11 (by decide)
                          have v10 : OwnB wT (fun k => wm.heap.size ≤ k) (vs4 10) (wrF f q.at_ pp) := hg 10 (by decide)
                          have X4 := Lib.hid ((Ext.refl None_ wm).drew.trans0 hx)
                          obtain ⟨Ax, cx, hvx, _⟩ := Own.slice v10
                          rw [hvx] at v10
                          clear hx hg
                          simp only [List.dropLast, List.getLast?, List.getLast, Option.toList, putAll, v11, hvx, Nat.reduceAdd, Nat.zero_add]
                          simp only [Act.put, List.setIfInBounds_toArray, List.set_cons_succ, List.set_cons_zero]
                          have hby2 : Byt (wrF f q.at_ pp) := wrF_byt HBY1.out HPB.out
                          have hfl2 : (wrF f q.at_ pp).length ≤ 1048576 := by rw [wrF_length]; omega
                          obtain ⟨HN1, HN2⟩ := HDM.out.moreC v10 hby2 X4.out
                          obtain ⟨HM1, HM2⟩ := HN1.setFile (bs := bh) (X4.out.cell k1 (fun a => a)) HN2 hfl2 q.file
                          have mc := X4.out.cell kc (fun a => a)
                          have mf : wT.frozen? ⟨bg, q.file, none⟩ = false := by
                            have hh := X4.out.block bg (World.block_lt_of_cell? wm ⟨bg, q.file, none⟩ kc) (fun a => a)
                            have h0 := kfb q.file
                            simp only [World.frozen?, hh] at h0 ⊢
                            exact h0
                          have HM1 := Lib.hid HM1
                          have HM2 := Lib.hid HM2
                          have HC9 := Lib.hid (fun k (hk : C2 k ∨ (Value.slice Ax (wrF f q.at_ pp).length cx).ownBlock = some k) => show C k ∨ w.heap.size ≤ k from by
                            rcases hk with hk | hk
                            · exact hcr.out k hk
                            · exact .inr (Nat.le_trans HXM.out.size (v10.blk k hk)))
                          clear HN1 HN2 v10 hby2 hfl2
                          go_wp2_with fail
                          go_roundw
                          case rel =>
                            refine ⟨j + 1, _, by go_num, by omega, Lib.hid ?_, HC9, Lib.hid ?_⟩
                            · rw [HST.out, HS3.out]
                              exact HM1.out
                            · exact (HXM.out.trans0 X4.out).trans HM2.out (fun k hk e => by have := e.1; omega)
                          case measure => simp [intOf]; omega
                      | true =>
                        rw [hcut] at n0
                        by_cases hat : q.at_ ≤ f.length
                        · have HS3 : Hid (crStep keep torn L F j q = F.set q.file (f.take q.at_)) := Lib.hid (by rw [HS2.out, if_pos hcut, if_pos hat])
                          have hatd : decide ((q.at_ : Int) ≤ (f.length : Int)) = true := by simp [hat]
                          obtain ⟨A5, hA5, hcut5⟩ := cut_hm (P := Try.prog) 22 5 1 Try.underlying22 infoU8 A1 f.length cc1 (q.at_ : Int) (q.at_ : Int) (by omega) (by omega) (by omega)
                          rw [show (q.at_ : Int).toNat = q.at_ by omega] at hcut5 hA5
                          have HSL5 : Hid (∀ W, Ext None_ wl W → Row W A5 (B8 (f.take q.at_))) := Lib.hid (fun W hx => by
                            by_cases h0 : q.at_ = 0
                            · rw [h0]; exact Row.nil _ _
                            · rw [hA5, if_neg h0]
                              have := ((HR1.out.ext0 hx).take q.at_).drop 0
                              simpa [B8, List.map_take] using this)
                          have HB5 : Hid (∀ ad, A5 = some ad → ∃ ad0, A1 = some ad0 ∧ ad.block = ad0.block) := Lib.hid (fun ad e => by
                            rw [hA5] at e
                            split at e
                            · exact ⟨ad, e, rfl⟩
                            · cases A1 with
                              | none => cases e
                              | some ad0 => cases e; exact ⟨ad0, rfl, add_block _ _⟩)
                          have HCU := Lib.hid hcut5
                          clear hcut hA5 hcut5
                          go_wp2_with fail
                          refine wp_region_last [sv _, sv _, sv _, sv _, sv _, sv _, sv _, sv _, sv _, sv _, sv _, sv (.slice A5 q.at_ q.at_), sv _] (by kernel_rfl) rfl rfl rfl rfl rfl (by decide) ⟨
                            (by
                              intro Lq aq wq hd hj Kq hK
                              rw [if_pos (wanted_none rfl)]
                              have f7 := hj.base 7 rfl rfl
                              exact opMove hK rfl (ev f7) rfl),
                            (by
                              intro Lq aq wq hd hj Kq hK
                              rw [if_pos (wanted_none rfl)]
                              have f110 := hj.val 0 110 rfl rfl (by simp) rfl (hd ⟨0, .data⟩ (by simp) rfl)
                              exact opNil hK rfl (ev f110) rfl),
                            (by
                              intro Lq aq wq hd hj Kq hK
                              rw [if_pos (wanted_none rfl)]
                              have f111 := hj.val 1 111 rfl rfl (by simp) rfl (hd ⟨1, .data⟩ (by simp) rfl)
                              exact opFieldA hK rfl (k := 1) (ev f111) (fun W => by kernel_rfl) rfl),
                            (by
                              intro Lq aq wq hd hj Kq hK
                              rw [if_pos (wanted_none rfl)]
                              have f112 := hj.val 2 112 rfl rfl (by simp) rfl (hd ⟨2, .data⟩ (by simp) rfl)
                              first
                                | exact opLoad hK rfl (ev f112) Try.underlying59 rfl (Ext.cell ((Ext.refl None_ wm).drew.trans0 hj.ext) k1 (fun a => a)) rfl
                                | exact opLoad hK rfl (ev f112) Try.underlying59 rfl (Ext.cell ((Ext.refl None_ wm).drew.trans0 hj.ext) n1 (fun a => a)) rfl
                                | exact opLoad hK rfl (ev f112) Try.underlying59 rfl (Ext.cell ((Ext.refl None_ wm).drew.trans0 hj.ext) n2 (fun a => a)) rfl),
                            (by
                              intro Lq aq wq hd hj Kq hK
                              rw [if_pos (wanted_none rfl)]
                              have f11 := hj.base 11 rfl rfl
                              exact opFieldA hK rfl (k := 1) (ev f11) (fun W => by kernel_rfl) rfl),
                            (by
                              intro Lq aq wq hd hj Kq hK
                              rw [if_pos (wanted_none rfl)]
                              have f114 := hj.val 4 114 rfl rfl (by simp) rfl (hd ⟨4, .data⟩ (by simp) rfl)
                              first
                                | exact opLoad hK rfl (ev f114) Try.underlying3 rfl (Ext.cell ((Ext.refl None_ wm).drew.trans0 hj.ext) k1 (fun a => a)) rfl
                                | exact opLoad hK rfl (ev f114) Try.underlying3 rfl (Ext.cell ((Ext.refl None_ wm).drew.trans0 hj.ext) n1 (fun a => a)) rfl
                                | exact opLoad hK rfl (ev f114) Try.underlying3 rfl (Ext.cell ((Ext.refl None_ wm).drew.trans0 hj.ext) n2 (fun a => a)) rfl),
                            (by
                              intro Lq aq wq hd hj Kq hK
                              rw [if_pos (wanted_none rfl)]
                              have f13 := hj.base 13 rfl rfl
                              exact opMove hK rfl (ev f13) rfl),
                            (by
                              intro Lq aq wq hd hj Kq hK
                              rw [if_pos (wanted_none rfl)]
                              have f11 := hj.base 11 rfl rfl
                              exact opFieldA hK rfl (k := 2) (ev f11) (fun W => by kernel_rfl) rfl),
                            (by
                              intro Lq aq wq hd hj Kq hK
                              rw [if_pos (wanted_none rfl)]
                              have f117 := hj.val 7 117 rfl rfl (by simp) rfl (hd ⟨7, .data⟩ (by simp) rfl)
                              first
                                | exact opLoad hK rfl (ev f117) Try.underlying3 rfl (Ext.cell ((Ext.refl None_ wm).drew.trans0 hj.ext) k1 (fun a => a)) rfl
                                | exact opLoad hK rfl (ev f117) Try.underlying3 rfl (Ext.cell ((Ext.refl None_ wm).drew.trans0 hj.ext) n1 (fun a => a)) rfl
                                | exact opLoad hK rfl (ev f117) Try.underlying3 rfl (Ext.cell ((Ext.refl None_ wm).drew.trans0 hj.ext) n2 (fun a => a)) rfl),
                            (by
                              intro Lq aq wq hd hj Kq hK
                              rw [if_pos (wanted_none rfl)]
                              have f11 := hj.base 11 rfl rfl
                              exact opFieldA hK rfl (k := 2) (ev f11) (fun W => by kernel_rfl) rfl),
                            (by
                              intro Lq aq wq hd hj Kq hK
                              rw [if_pos (wanted_none rfl)]
                              have f119 := hj.val 9 119 rfl rfl (by simp) rfl (hd ⟨9, .data⟩ (by simp) rfl)
                              first
                                | exact opLoad hK rfl (ev f119) Try.underlying3 rfl (Ext.cell ((Ext.refl None_ wm).drew.trans0 hj.ext) k1 (fun a => a)) rfl
                                | exact opLoad hK rfl (ev f119) Try.underlying3 rfl (Ext.cell ((Ext.refl None_ wm).drew.trans0 hj.ext) n1 (fun a => a)) rfl
                                | exact opLoad hK rfl (ev f119) Try.underlying3 rfl (Ext.cell ((Ext.refl None_ wm).drew.trans0 hj.ext) n2 (fun a => a)) rfl),
                            (by
                              intro Lq aq wq hd hj Kq hK
                              rw [if_pos (wanted_none rfl)]
                              have f116 := hj.val 6 116 rfl rfl (by simp) rfl (hd ⟨6, .data⟩ (by simp) rfl)
                              have f118 := hj.val 8 118 rfl rfl (by simp) rfl (hd ⟨8, .data⟩ (by simp) rfl)
                              have f120 := hj.val 10 120 rfl rfl (by simp) rfl (hd ⟨10, .data⟩ (by simp) rfl)
                              exact opSliceOp hK rfl (ev f116) rfl (congrArg some (ev f118)) (congrArg some (ev f120)) Try.underlying22 HCU.out rfl),
                            (by
                              intro Lq aq wq hd hj Kq hK
                              rw [if_pos (wanted_none rfl)]
                              have f113 := hj.val 3 113 rfl rfl (by simp) rfl (hd ⟨3, .data⟩ (by simp) rfl)
                              have f115 := hj.val 5 115 rfl rfl (by simp) rfl (hd ⟨5, .data⟩ (by simp) rfl)
                              exact opIndexB hK rfl (j := q.file) (ev f113) (ev f115) Try.underlying59 infoSl (by omega) (by omega) (by simp) rfl),
                            trivial⟩ ?fin
                          case fin =>
                            intro vs4 wT hx hg
                            have v12 : vs4 12 = .pointer (some ⟨bg, q.file, none⟩) := hg 12 (by decide)
                            have v11 : vs4 11 = .slice A5 q.at_ q.at_ := hg 11 (by decide)
                            have X4 := Lib.hid ((Ext.refl None_ wm).drew.trans0 hx)
                            clear hx hg
                            simp only [List.dropLast, List.getLast?, List.getLast, Option.toList, putAll, v11, v12, Nat.reduceAdd, Nat.zero_add]
                            simp only [Act.put, List.setIfInBounds_toArray, List.set_cons_succ, List.set_cons_zero]
                            have hDT := HDM.out.ext0 X4.out
                            have hsl5 : Sl wT C2 (.slice A5 q.at_ q.at_) (f.take q.at_) := by
                              refine ⟨A5, q.at_, by rw [List.length_take, Nat.min_eq_left hat], HSL5.out _ (X3.out.trans0 X4.out), by rw [List.length_take]; omega, by omega, fun x hx => HBY1.out x (List.mem_of_mem_take hx), fun ad e => ?_⟩
                              obtain ⟨ad0, e0, hb⟩ := HB5.out ad e
                              obtain ⟨A6, c6, e6, _, _, _, _, hbl6⟩ := (hDT.tabs (X4.out.cell k1 (fun a => a)) (X4.out.cell k2 (fun a => a))).1.file (i := q.file) (by rw [hDT.ok.f64]; exact hq64)
                              have e7 := X4.out.cell kc (fun a => a)
                              rw [e6] at e7
                              obtain rfl : A6 = A1 := by simpa using (by simpa using e7 : A6 = A1 ∧ _ ∧ _).1
                              rw [hb]
                              exact hbl6 ad0 e0
                            obtain ⟨HM1, HM2⟩ := hDT.setFile (bs := bh) (X4.out.cell k1 (fun a => a)) hsl5 (by rw [List.length_take]; omega) q.file
                            have mc := X4.out.cell kc (fun a => a)
                            have mf : wT.frozen? ⟨bg, q.file, none⟩ = false := by
                              have hh := X4.out.block bg (World.block_lt_of_cell? wm ⟨bg, q.file, none⟩ kc) (fun a => a)
                              have h0 := kfb q.file
                              simp only [World.frozen?, hh] at h0 ⊢
                              exact h0
                            have HM1 := Lib.hid HM1
                            have HM2 := Lib.hid HM2
                            clear hsl5 hDT
                            go_wp2_with fail
                            go_roundw
                            case rel =>
                              refine ⟨j + 1, _, by go_num, by omega, Lib.hid ?_, hcr, Lib.hid ?_⟩
                              · rw [HST.out, HS3.out]
                                exact HM1.out
                              · exact (HXM.out.trans0 X4.out).trans HM2.out (fun k hk e => by have := e.1; omega)
                            case measure => simp [intOf]; omega
                        · have HS3 : Hid (crStep keep torn L F j q = F) := Lib.hid (by rw [HS2.out, if_pos hcut, if_neg hat])
                          have hatd : decide ((q.at_ : Int) ≤ (f.length : Int)) = false := by simp; omega
                          clear hcut
                          go_wp2_with fail
                          go_roundw
                          case rel => exact ⟨j + 1, C2, by go_num, by omega, Lib.hid (by rw [HST.out, HS3.out]; exact HDM.out), hcr, HXM⟩
                          case measure => simp [intOf]; omega
                  · have hpe : pp = q.p := by rw [hpp]; unfold tornP; rw [if_neg (fun h => ht3 h.2.2)]
                    have hk1 : ((j : Int) == L) = true := by simp [ht1]
                    clear ht1
                    go_wp2_with fail
                    obtain ⟨wl, hwl⟩ : ∃ wl, wl = wr.alloc (.cells #[.bool q.cut, .int .i64 q.file, .int .i64 q.at_, .slice B q.p.length cb] 81) := ⟨_, rfl⟩
                    rw [← hwl]
                    have hbl : Blk wl wr.heap.size #[.bool q.cut, .int .i64 q.file, .int .i64 q.at_, .slice B q.p.length cb] 81 := hwl ▸ Blk.new wr _ _
                    have l0 := hbl.cell 0
                    have l1 := hbl.cell 1
                    have l2 := hbl.cell 2
                    have HXL : Hid (Ext None_ wr wl) := Lib.hid (hwl ▸ (Ext.refl None_ wr).alloc _)
                    have HDL := Lib.hid (hdr.out.ext0 HXL.out)
                    have HPR : Hid (∀ W, Ext None_ wl W → Row W B (B8 pp)) := Lib.hid (fun W hx => by rw [hpe]; exact (HBR.out.ext0 HXL.out).ext0 hx)
                    have HPB : Hid (Byt pp) := Lib.hid (by rw [hpe]; first | exact HBY.out | exact fun x hx => HBY.out x (List.mem_of_mem_take hx))
                    have hppl : pp.length = q.p.length := by subst hpe; first | rfl | (rw [List.length_take]; omega)
                    have hppm : q.at_ + pp.length ≤ 1048576 := by rw [hppl]; omega
                    rw [← hppl]
                    clear hwl hbl hpe hpp q0 q1 q2 q3 m3 m3r hb1'
                    obtain ⟨f, hf⟩ : ∃ f, f = fileAt F q.file := ⟨_, rfl⟩
                    have HFF := Lib.hid hf
                    rw [← hf] at HS2
                    obtain ⟨bg, bh, Aw, cw, A1, cc1, ⟨d0, d1, d2, d3⟩, dg, dfb, hc1, HR1, hcc1, HBY1, hll⟩ := HDL.out.fileN (l := f) (n := q.file) hf hq64
                    clear hf
                    refine wp_region_mem [sv _, sv _, sv _, sv _, sv _, sv _, sv _, sv _, sv _] (by kernel_rfl) rfl rfl rfl rfl ⟨
                      (by
                        intro Lq aq wq hd hj Kq hK
                        rw [if_pos (wanted_none rfl)]
                        have f7 := hj.base 7 rfl rfl
                        exact opMove hK rfl (ev f7) rfl),
                      (by
                        intro Lq aq wq hd hj Kq hK
                        rw [if_pos (wanted_none rfl)]
                        have f80 := hj.val 0 80 rfl rfl (by simp) rfl (hd ⟨0, .data⟩ (by simp) rfl)
                        exact opNil hK rfl (ev f80) rfl),
                      (by
                        intro Lq aq wq hd hj Kq hK
                        rw [if_pos (wanted_none rfl)]
                        have f81 := hj.val 1 81 rfl rfl (by simp) rfl (hd ⟨1, .data⟩ (by simp) rfl)
                        exact opFieldA hK rfl (k := 1) (ev f81) (fun W => by kernel_rfl) rfl),
                      (by
                        intro Lq aq wq hd hj Kq hK
                        rw [if_pos (wanted_none rfl)]
                        have f82 := hj.val 2 82 rfl rfl (by simp) rfl (hd ⟨2, .data⟩ (by simp) rfl)
                        first
                          | exact opLoad hK rfl (ev f82) Try.underlying59 rfl (Ext.cell ((Ext.refl None_ wl).drew.trans0 hj.ext) d1 (fun a => a)) rfl
                          | exact opLoad hK rfl (ev f82) Try.underlying59 rfl (Ext.cell ((Ext.refl None_ wl).drew.trans0 hj.ext) l1 (fun a => a)) rfl
                          | exact opLoad hK rfl (ev f82) Try.underlying59 rfl (Ext.cell ((Ext.refl None_ wl).drew.trans0 hj.ext) hc1 (fun a => a)) rfl),
                      (by
                        intro Lq aq wq hd hj Kq hK
                        rw [if_pos (wanted_none rfl)]
                        have f11 := hj.base 11 rfl rfl
                        exact opFieldA hK rfl (k := 1) (ev f11) (fun W => by kernel_rfl) rfl),
                      (by
                        intro Lq aq wq hd hj Kq hK
                        rw [if_pos (wanted_none rfl)]
                        have f84 := hj.val 4 84 rfl rfl (by simp) rfl (hd ⟨4, .data⟩ (by simp) rfl)
                        first
                          | exact opLoad hK rfl (ev f84) Try.underlying3 rfl (Ext.cell ((Ext.refl None_ wl).drew.trans0 hj.ext) d1 (fun a => a)) rfl
                          | exact opLoad hK rfl (ev f84) Try.underlying3 rfl (Ext.cell ((Ext.refl None_ wl).drew.trans0 hj.ext) l1 (fun a => a)) rfl
                          | exact opLoad hK rfl (ev f84) Try.underlying3 rfl (Ext.cell ((Ext.refl None_ wl).drew.trans0 hj.ext) hc1 (fun a => a)) rfl),
                      (by
                        intro Lq aq wq hd hj Kq hK
                        rw [if_pos (wanted_none rfl)]
                        have f83 := hj.val 3 83 rfl rfl (by simp) rfl (hd ⟨3, .data⟩ (by simp) rfl)
                        have f85 := hj.val 5 85 rfl rfl (by simp) rfl (hd ⟨5, .data⟩ (by simp) rfl)
                        exact opIndexB hK rfl (j := q.file) (ev f83) (ev f85) Try.underlying59 infoSl (by omega) (by omega) (by simp) rfl),
                      (by
                        intro Lq aq wq hd hj Kq hK
                        rw [if_pos (wanted_none rfl)]
                        have f86 := hj.val 6 86 rfl rfl (by simp) rfl (hd ⟨6, .data⟩ (by simp) rfl)
                        first
                          | exact opLoad hK rfl (ev f86) Try.underlying22 rfl (Ext.cell ((Ext.refl None_ wl).drew.trans0 hj.ext) d1 (fun a => a)) rfl
                          | exact opLoad hK rfl (ev f86) Try.underlying22 rfl (Ext.cell ((Ext.refl None_ wl).drew.trans0 hj.ext) l1 (fun a => a)) rfl
                          | exact opLoad hK rfl (ev f86) Try.underlying22 rfl (Ext.cell ((Ext.refl None_ wl).drew.trans0 hj.ext) hc1 (fun a => a)) rfl),
                      (by
                        intro Lq aq wq hd hj Kq hK
                        rw [if_pos (wanted_none rfl)]
                        have f87 := hj.val 7 87 rfl rfl (by simp) rfl (hd ⟨7, .data⟩ (by simp) rfl)
                        exact opAssign hK rfl (ev f87) rfl),
                      trivial⟩ ?fin
                    case fin =>
                      intro vs3 wm hx hg
                      have v8 : vs3 8 = _ := hg 8 (by decide)
                      have X3 := Lib.hid ((Ext.refl None_ wl).drew.trans0 hx)
                      clear hx hg
                      simp only [putAll, v8, Nat.reduceAdd, Nat.zero_add]
                      simp only [Act.put, List.setIfInBounds_toArray, List.set_cons_succ, List.set_cons_zero]
                      have k1 := X3.out.cell d1 (fun a => a)
                      have k2 := X3.out.cell d2 (fun a => a)
                      have kc := X3.out.cell hc1 (fun a => a)
                      have n0 := X3.out.cell l0 (fun a => a)
                      have n1 := X3.out.cell l1 (fun a => a)
                      have n2 := X3.out.cell l2 (fun a => a)
                      have kfb : ∀ i, wm.frozen? ⟨bg, i, none⟩ = false := fun i => by
                        have hh := X3.out.block bg (World.block_lt_of_cell? wl ⟨bg, q.file, none⟩ hc1) (fun a => a)
                        have h0 := dfb i
                        simp only [World.frozen?, hh] at h0 ⊢
                        exact h0
                      have HDM := Lib.hid (HDL.out.ext0 X3.out)
                      have HXM : Hid (Ext None_ w wm) := Lib.hid ((hxw.out.trans0 HXL.out).trans0 X3.out)
                      clear d0 d1 d2 d3 hc1 l0 l1 l2 dfb
                      cases hcut : q.cut with
                      | false =>
                        rw [hcut] at n0
                        have HS3 : Hid (crStep keep torn L F j q = F.set q.file (wrF f q.at_ pp)) := Lib.hid (by rw [HS2.out, if_neg (by rw [hcut]; decide)])
                        clear hcut
                        go_wp2_with fail
                        refine wp_region_last [sv _, sv _, sv _, sv _, sv _, sv _, sv _, sv _, sv _, sv _, sB (fun k => wm.heap.size ≤ k) (wrF f q.at_ pp), sv _] (by kernel_rfl) rfl rfl rfl rfl rfl (by decide) ⟨
                          (by
                            intro Lq aq wq hd hj Kq hK
                            rw [if_pos (wanted_none rfl)]
                            have f7 := hj.base 7 rfl rfl
                            exact opMove hK rfl (ev f7) rfl),
                          (by
                            intro Lq aq wq hd hj Kq hK
                            rw [if_pos (wanted_none rfl)]
                            have f92 := hj.val 0 92 rfl rfl (by simp) rfl (hd ⟨0, .data⟩ (by simp) rfl)
                            exact opNil hK rfl (ev f92) rfl),
                          (by
                            intro Lq aq wq hd hj Kq hK
                            rw [if_pos (wanted_none rfl)]
                            have f93 := hj.val 1 93 rfl rfl (by simp) rfl (hd ⟨1, .data⟩ (by simp) rfl)
                            exact opFieldA hK rfl (k := 1) (ev f93) (fun W => by kernel_rfl) rfl),
                          (by
                            intro Lq aq wq hd hj Kq hK
                            rw [if_pos (wanted_none rfl)]
                            have f94 := hj.val 2 94 rfl rfl (by simp) rfl (hd ⟨2, .data⟩ (by simp) rfl)
                            first
                              | exact opLoad hK rfl (ev f94) Try.underlying59 rfl (Ext.cell ((Ext.refl None_ wm).drew.trans0 hj.ext) k1 (fun a => a)) rfl
                              | exact opLoad hK rfl (ev f94) Try.underlying59 rfl (Ext.cell ((Ext.refl None_ wm).drew.trans0 hj.ext) n1 (fun a => a)) rfl
                              | exact opLoad hK rfl (ev f94) Try.underlying59 rfl (Ext.cell ((Ext.refl None_ wm).drew.trans0 hj.ext) n2 (fun a => a)) rfl),
                          (by
                            intro Lq aq wq hd hj Kq hK
                            rw [if_pos (wanted_none rfl)]
                            have f11 := hj.base 11 rfl rfl
                            exact opFieldA hK rfl (k := 1) (ev f11) (fun W => by kernel_rfl) rfl),
                          (by
                            intro Lq aq wq hd hj Kq hK
                            rw [if_pos (wanted_none rfl)]
                            have f96 := hj.val 4 96 rfl rfl (by simp) rfl (hd ⟨4, .data⟩ (by simp) rfl)
                            first
                              | exact opLoad hK rfl (ev f96) Try.underlying3 rfl (Ext.cell ((Ext.refl None_ wm).drew.trans0 hj.ext) k1 (fun a => a)) rfl
                              | exact opLoad hK rfl (ev f96) Try.underlying3 rfl (Ext.cell ((Ext.refl None_ wm).drew.trans0 hj.ext) n1 (fun a => a)) rfl
                              | exact opLoad hK rfl (ev f96) Try.underlying3 rfl (Ext.cell ((Ext.refl None_ wm).drew.trans0 hj.ext) n2 (fun a => a)) rfl),
                          (by
                            intro Lq aq wq hd hj Kq hK
                            rw [if_pos (wanted_none rfl)]
                            have f13 := hj.base 13 rfl rfl
                            exact opMove hK rfl (ev f13) rfl),
                          (by
                            intro Lq aq wq hd hj Kq hK
                            rw [if_pos (wanted_none rfl)]
                            have f11 := hj.base 11 rfl rfl
                            exact opFieldA hK rfl (k := 2) (ev f11) (fun W => by kernel_rfl) rfl),
                          (by
                            intro Lq aq wq hd hj Kq hK
                            rw [if_pos (wanted_none rfl)]
                            have f99 := hj.val 7 99 rfl rfl (by simp) rfl (hd ⟨7, .data⟩ (by simp) rfl)
                            first
                              | exact opLoad hK rfl (ev f99) Try.underlying3 rfl (Ext.cell ((Ext.refl None_ wm).drew.trans0 hj.ext) k1 (fun a => a)) rfl
                              | exact opLoad hK rfl (ev f99) Try.underlying3 rfl (Ext.cell ((Ext.refl None_ wm).drew.trans0 hj.ext) n1 (fun a => a)) rfl
                              | exact opLoad hK rfl (ev f99) Try.underlying3 rfl (Ext.cell ((Ext.refl None_ wm).drew.trans0 hj.ext) n2 (fun a => a)) rfl),
                          (by
                            intro Lq aq wq hd hj Kq hK
                            rw [if_pos (wanted_none rfl)]
                            have f12 := hj.base 12 rfl rfl
                            exact opMove hK rfl (ev f12) rfl),
                          (by
                            intro Lq aq wq hd hj Kq hK
                            rw [if_pos (wanted_none rfl)]
                            have f98 := hj.val 6 98 rfl rfl (by simp) rfl (hd ⟨6, .data⟩ (by simp) rfl)
                            have f100 := hj.val 8 100 rfl rfl (by simp) rfl (hd ⟨8, .data⟩ (by simp) rfl)
                            have f101 := hj.val 9 101 rfl rfl (by simp) rfl (hd ⟨9, .data⟩ (by simp) rfl)
                            exact opCall hK Try.func53 (by kernel_rfl) rfl (args := #[.slice A1 f.length cc1, .int .i64 q.at_, .slice B pp.length cb]) (by simp [ev f98, ev f100, ev f101]) ((written_any A1 cc1 f q.at_ B cb pp _ ((HR1.out.ext0 X3.out).ext0 ((Ext.refl None_ wm).drew.trans0 hj.ext)) (HPR.out _ (X3.out.trans0 ((Ext.refl None_ wm).drew.trans0 hj.ext))) hll (by omega) (by omega)).mono fun e w' ⟨v', h1, h2, h3⟩ => ⟨v', h1, OwnB.mono h2 (fun k _ hk => Nat.le_trans (Ext.size ((Ext.refl None_ wm).drew.trans0 hj.ext)) hk), h3⟩)),
                          (by
                            intro Lq aq wq hd hj Kq hK
                            rw [if_pos (wanted_none rfl)]
                            have f95 := hj.val 3 95 rfl rfl (by simp) rfl (hd ⟨3, .data⟩ (by simp) rfl)
                            have f97 := hj.val 5 97 rfl rfl (by simp) rfl (hd ⟨5, .data⟩ (by simp) rfl)
                            exact opIndexB hK rfl (j := q.file) (ev f95) (ev f97) Try.underlying59 infoSl (by omega) (by omega) (by simp) rfl),
                          trivial⟩ ?fin
                        case fin =>
                          intro vs4 wT hx hg
                          have v11 : vs4 11 = .pointer (some ⟨bg, q.file, none⟩) := hg 11 (by decide)
                          have v10 : OwnB wT (fun k => wm.heap.size ≤ k) (vs4 10) (wrF f q.at_ pp) := hg 10 (by decide)
                          have X4 := Lib.hid ((Ext.refl None_ wm).drew.trans0 hx)
                          obtain ⟨Ax, cx, hvx, _⟩ := Own.slice v10
                          rw [hvx] at v10
                          clear hx hg
                          simp only [List.dropLast, List.getLast?, List.getLast, Option.toList, putAll, v11, hvx, Nat.reduceAdd, Nat.zero_add]
                          simp only [Act.put, List.setIfInBounds_toArray, List.set_cons_succ, List.set_cons_zero]
                          have hby2 : Byt (wrF f q.at_ pp) := wrF_byt HBY1.out HPB.out
                          have hfl2 : (wrF f q.at_ pp).length ≤ 1048576 := by rw [wrF_length]; omega
                          obtain ⟨HN1, HN2⟩ := HDM.out.moreC v10 hby2 X4.out
                          obtain ⟨HM1, HM2⟩ := HN1.setFile (bs := bh) (X4.out.cell k1 (fun a => a)) HN2 hfl2 q.file
                          have mc := X4.out.cell kc (fun a => a)
                          have mf : wT.frozen? ⟨bg, q.file, none⟩ = false := by
                            have hh := X4.out.block bg (World.block_lt_of_cell? wm ⟨bg, q.file, none⟩ kc) (fun a => a)
                            have h0 := kfb q.file
                            simp only [World.frozen?, hh] at h0 ⊢
                            exact h0
                          have HM1 := Lib.hid HM1
                          have HM2 := Lib.hid HM2
                          have HC9 := Lib.hid (fun k (hk : C2 k ∨ (Value.slice Ax (wrF f q.at_ pp).length cx).ownBlock = some k) => show C k ∨ w.heap.size ≤ k from by
                            rcases hk with hk | hk
                            · exact hcr.out k hk
                            · exact .inr (Nat.le_trans HXM.out.size (v10.blk k hk)))
                          clear HN1 HN2 v10 hby2 hfl2
                          go_wp2_with fail
                          go_roundw
                          case rel =>
                            refine ⟨j + 1, _, by go_num, by omega, Lib.hid ?_, HC9, Lib.hid ?_⟩
                            · rw [HST.out, HS3.out]
                              exact HM1.out
                            · exact (HXM.out.trans0 X4.out).trans HM2.out (fun k hk e => by have := e.1; omega)
                          case measure => simp [intOf]; omega
                      | true =>
                        rw [hcut] at n0
                        by_cases hat : q.at_ ≤ f.length
                        · have HS3 : Hid (crStep keep torn L F j q = F.set q.file (f.take q.at_)) := Lib.hid (by rw [HS2.out, if_pos hcut, if_pos hat])
                          have hatd : decide ((q.at_ : Int) ≤ (f.length : Int)) = true := by simp [hat]
                          obtain ⟨A5, hA5, hcut5⟩ := cut_hm (P := Try.prog) 22 5 1 Try.underlying22 infoU8 A1 f.length cc1 (q.at_ : Int) (q.at_ : Int) (by omega) (by omega) (by omega)
                          rw [show (q.at_ : Int).toNat = q.at_ by omega] at hcut5 hA5
                          have HSL5 : Hid (∀ W, Ext None_ wl W → Row W A5 (B8 (f.take q.at_))) := Lib.hid (fun W hx => by
                            by_cases h0 : q.at_ = 0
                            · rw [h0]; exact Row.nil _ _
                            · rw [hA5, if_neg h0]
                              have := ((HR1.out.ext0 hx).take q.at_).drop 0
                              simpa [B8, List.map_take] using this)
                          have HB5 : Hid (∀ ad, A5 = some ad → ∃ ad0, A1 = some ad0 ∧ ad.block = ad0.block) := Lib.hid (fun ad e => by
                            rw [hA5] at e
                            split at e
                            · exact ⟨ad, e, rfl⟩
                            · cases A1 with
                              | none => cases e
                              | some ad0 => cases e; exact ⟨ad0, rfl, add_block _ _⟩)
                          have HCU := Lib.hid hcut5
                          clear hcut hA5 hcut5
                          go_wp2_with fail
                          refine wp_region_last [sv _, sv _, sv _, sv _, sv _, sv _, sv _, sv _, sv _, sv _, sv _, sv (.slice A5 q.at_ q.at_), sv _] (by kernel_rfl) rfl rfl rfl rfl rfl (by decide) ⟨
                            (by
                              intro Lq aq wq hd hj Kq hK
                              rw [if_pos (wanted_none rfl)]
                              have f7 := hj.base 7 rfl rfl
                              exact opMove hK rfl (ev f7) rfl),
                            (by
                              intro Lq aq wq hd hj Kq hK
                              rw [if_pos (wanted_none rfl)]
                              have f110 := hj.val 0 110 rfl rfl (by simp) rfl (hd ⟨0, .data⟩ (by simp) rfl)
                              exact opNil hK rfl (ev f110) rfl),
                            (by
                              intro Lq aq wq hd hj Kq hK
                              rw [if_pos (wanted_none rfl)]
                              have f111 := hj.val 1 111 rfl rfl (by simp) rfl (hd ⟨1, .data⟩ (by simp) rfl)
                              exact opFieldA hK rfl (k := 1) (ev f111) (fun W => by kernel_rfl) rfl),
                            (by
                              intro Lq aq wq hd hj Kq hK
                              rw [if_pos (wanted_none rfl)]
                              have f112 := hj.val 2 112 rfl rfl (by simp) rfl (hd ⟨2, .data⟩ (by simp) rfl)
                              first
                                | exact opLoad hK rfl (ev f112) Try.underlying59 rfl (Ext.cell ((Ext.refl None_ wm).drew.trans0 hj.ext) k1 (fun a => a)) rfl
                                | exact opLoad hK rfl (ev f112) Try.underlying59 rfl (Ext.cell ((Ext.refl None_ wm).drew.trans0 hj.ext) n1 (fun a => a)) rfl
                                | exact opLoad hK rfl (ev f112) Try.underlying59 rfl (Ext.cell ((Ext.refl None_ wm).drew.trans0 hj.ext) n2 (fun a => a)) rfl),
                            (by
                              intro Lq aq wq hd hj Kq hK
                              rw [if_pos (wanted_none rfl)]
                              have f11 := hj.base 11 rfl rfl
                              exact opFieldA hK rfl (k := 1) (ev f11) (fun W => by kernel_rfl) rfl),
                            (by
                              intro Lq aq wq hd hj Kq hK
                              rw [if_pos (wanted_none rfl)]
                              have f114 := hj.val 4 114 rfl rfl (by simp) rfl (hd ⟨4, .data⟩ (by simp) rfl)
                              first
                                | exact opLoad hK rfl (ev f114) Try.underlying3 rfl (Ext.cell ((Ext.refl None_ wm).drew.trans0 hj.ext) k1 (fun a => a)) rfl
                                | exact opLoad hK rfl (ev f114) Try.underlying3 rfl (Ext.cell ((Ext.refl None_ wm).drew.trans0 hj.ext) n1 (fun a => a)) rfl
                                | exact opLoad hK rfl (ev f114) Try.underlying3 rfl (Ext.cell ((Ext.refl None_ wm).drew.trans0 hj.ext) n2 (fun a => a)) rfl),
                            (by
                              intro Lq aq wq hd hj Kq hK
                              rw [if_pos (wanted_none rfl)]
                              have f13 := hj.base 13 rfl rfl
                              exact opMove hK rfl (ev f13) rfl),
                            (by
                              intro Lq aq wq hd hj Kq hK
                              rw [if_pos (wanted_none rfl)]
                              have f11 := hj.base 11 rfl rfl
                              exact opFieldA hK rfl (k := 2) (ev f11) (fun W => by kernel_rfl) rfl),
                            (by
                              intro Lq aq wq hd hj Kq hK
                              rw [if_pos (wanted_none rfl)]
                              have f117 := hj.val 7 117 rfl rfl (by simp) rfl (hd ⟨7, .data⟩ (by simp) rfl)
                              first
                                | exact opLoad hK rfl (ev f117) Try.underlying3 rfl (Ext.cell ((Ext.refl None_ wm).drew.trans0 hj.ext) k1 (fun a => a)) rfl
                                | exact opLoad hK rfl (ev f117) Try.underlying3 rfl (Ext.cell ((Ext.refl None_ wm).drew.trans0 hj.ext) n1 (fun a => a)) rfl
                                | exact opLoad hK rfl (ev f117) Try.underlying3 rfl (Ext.cell ((Ext.refl None_ wm).drew.trans0 hj.ext) n2 (fun a => a)) rfl),
                            (by
                              intro Lq aq wq hd hj Kq hK
                              rw [if_pos (wanted_none rfl)]
                              have f11 := hj.base 11 rfl rfl
                              exact opFieldA hK rfl (k := 2) (ev f11) (fun W => by kernel_rfl) rfl),
                            (by
                              intro Lq aq wq hd hj Kq hK
                              rw [if_pos (wanted_none rfl)]
                              have f119 := hj.val 9 119 rfl rfl (by simp) rfl (hd ⟨9, .data⟩ (by simp) rfl)
                              first
                                | exact opLoad hK rfl (ev f119) Try.underlying3 rfl (Ext.cell ((Ext.refl None_ wm).drew.trans0 hj.ext) k1 (fun a => a)) rfl
                                | exact opLoad hK rfl (ev f119) Try.underlying3 rfl (Ext.cell ((Ext.refl None_ wm).drew.trans0 hj.ext) n1 (fun a => a)) rfl
                                | exact opLoad hK rfl (ev f119) Try.underlying3 rfl (Ext.cell ((Ext.refl None_ wm).drew.trans0 hj.ext) n2 (fun a => a)) rfl),
                            (by
                              intro Lq aq wq hd hj Kq hK
                              rw [if_pos (wanted_none rfl)]
                              have f116 := hj.val 6 116 rfl rfl (by simp) rfl (hd ⟨6, .data⟩ (by simp) rfl)
                              have f118 := hj.val 8 118 rfl rfl (by simp) rfl (hd ⟨8, .data⟩ (by simp) rfl)
                              have f120 := hj.val 10 120 rfl rfl (by simp) rfl (hd ⟨10, .data⟩ (by simp) rfl)
                              exact opSliceOp hK rfl (ev f116) rfl (congrArg some (ev f118)) (congrArg some (ev f120)) Try.underlying22 HCU.out rfl),
                            (by
                              intro Lq aq wq hd hj Kq hK
                              rw [if_pos (wanted_none rfl)]
                              have f113 := hj.val 3 113 rfl rfl (by simp) rfl (hd ⟨3, .data⟩ (by simp) rfl)
                              have f115 := hj.val 5 115 rfl rfl (by simp) rfl (hd ⟨5, .data⟩ (by simp) rfl)
                              exact opIndexB hK rfl (j := q.file) (ev f113) (ev f115) Try.underlying59 infoSl (by omega) (by omega) (by simp) rfl),
                            trivial⟩ ?fin
                          case fin =>
                            intro vs4 wT hx hg
                            have v12 : vs4 12 = .pointer (some ⟨bg, q.file, none⟩) := hg 12 (by decide)
                            have v11 : vs4 11 = .slice A5 q.at_ q.at_ := hg 11 (by decide)
                            have X4 := Lib.hid ((Ext.refl None_ wm).drew.trans0 hx)
                            clear hx hg
                            simp only [List.dropLast, List.getLast?, List.getLast, Option.toList, putAll, v11, v12, Nat.reduceAdd, Nat.zero_add]
                            simp only [Act.put, List.setIfInBounds_toArray, List.set_cons_succ, List.set_cons_zero]
                            have hDT := HDM.out.ext0 X4.out
                            have hsl5 : Sl wT C2 (.slice A5 q.at_ q.at_) (f.take q.at_) := by
                              refine ⟨A5, q.at_, by rw [List.length_take, Nat.min_eq_left hat], HSL5.out _ (X3.out.trans0 X4.out), by rw [List.length_take]; omega, by omega, fun x hx => HBY1.out x (List.mem_of_mem_take hx), fun ad e => ?_⟩
                              obtain ⟨ad0, e0, hb⟩ := HB5.out ad e
                              obtain ⟨A6, c6, e6, _, _, _, _, hbl6⟩ := (hDT.tabs (X4.out.cell k1 (fun a => a)) (X4.out.cell k2 (fun a => a))).1.file (i := q.file) (by rw [hDT.ok.f64]; exact hq64)
                              have e7 := X4.out.cell kc (fun a => a)
                              rw [e6] at e7
                              obtain rfl : A6 = A1 := by simpa using (by simpa using e7 : A6 = A1 ∧ _ ∧ _).1
                              rw [hb]
                              exact hbl6 ad0 e0
                            obtain ⟨HM1, HM2⟩ := hDT.setFile (bs := bh) (X4.out.cell k1 (fun a => a)) hsl5 (by rw [List.length_take]; omega) q.file
                            have mc := X4.out.cell kc (fun a => a)
                            have mf : wT.frozen? ⟨bg, q.file, none⟩ = false := by
                              have hh := X4.out.block bg (World.block_lt_of_cell? wm ⟨bg, q.file, none⟩ kc) (fun a => a)
                              have h0 := kfb q.file
                              simp only [World.frozen?, hh] at h0 ⊢
                              exact h0
                            have HM1 := Lib.hid HM1
                            have HM2 := Lib.hid HM2
                            clear hsl5 hDT
                            go_wp2_with fail
                            go_roundw
                            case rel =>
                              refine ⟨j + 1, _, by go_num, by omega, Lib.hid ?_, hcr, Lib.hid ?_⟩
                              · rw [HST.out, HS3.out]
                                exact HM1.out
                              · exact (HXM.out.trans0 X4.out).trans HM2.out (fun k hk e => by have := e.1; omega)
                            case measure => simp [intOf]; omega
                        · have HS3 : Hid (crStep keep torn L F j q = F) := Lib.hid (by rw [HS2.out, if_pos hcut, if_neg hat])
                          have hatd : decide ((q.at_ : Int) ≤ (f.length : Int)) = false := by simp; omega
                          clear hcut
                          go_wp2_with fail
                          go_roundw
                          case rel => exact ⟨j + 1, C2, by go_num, by omega, Lib.hid (by rw [HST.out, HS3.out]; exact HDM.out), hcr, HXM⟩
                          case measure => simp [intOf]; omega
                · have hpe : pp = q.p := by rw [hpp]; unfold tornP; rw [if_neg (fun h => ht2 h.2.1)]
                  have hk1 : ((j : Int) == L) = true := by simp [ht1]
                  clear ht1
                  go_wp2_with fail
                  obtain ⟨wl, hwl⟩ : ∃ wl, wl = wr.alloc (.cells #[.bool q.cut, .int .i64 q.file, .int .i64 q.at_, .slice B q.p.length cb] 81) := ⟨_, rfl⟩
                  rw [← hwl]
                  have hbl : Blk wl wr.heap.size #[.bool q.cut, .int .i64 q.file, .int .i64 q.at_, .slice B q.p.length cb] 81 := hwl ▸ Blk.new wr _ _
                  have l0 := hbl.cell 0
                  have l1 := hbl.cell 1
                  have l2 := hbl.cell 2
                  have HXL : Hid (Ext None_ wr wl) := Lib.hid (hwl ▸ (Ext.refl None_ wr).alloc _)
                  have HDL := Lib.hid (hdr.out.ext0 HXL.out)
                  have HPR : Hid (∀ W, Ext None_ wl W → Row W B (B8 pp)) := Lib.hid (fun W hx => by rw [hpe]; exact (HBR.out.ext0 HXL.out).ext0 hx)
                  have HPB : Hid (Byt pp) := Lib.hid (by rw [hpe]; first | exact HBY.out | exact fun x hx => HBY.out x (List.mem_of_mem_take hx))
                  have hppl : pp.length = q.p.length := by subst hpe; first | rfl | (rw [List.length_take]; omega)
                  have hppm : q.at_ + pp.length ≤ 1048576 := by rw [hppl]; omega
                  rw [← hppl]
                  clear hwl hbl hpe hpp q0 q1 q2 q3 m3 m3r hb1'
                  obtain ⟨f, hf⟩ : ∃ f, f = fileAt F q.file := ⟨_, rfl⟩
                  have HFF := Lib.hid hf
                  rw [← hf] at HS2
                  obtain ⟨bg, bh, Aw, cw, A1, cc1, ⟨d0, d1, d2, d3⟩, dg, dfb, hc1, HR1, hcc1, HBY1, hll⟩ := HDL.out.fileN (l := f) (n := q.file) hf hq64
                  clear hf
                  refine wp_region_mem [sv _, sv _, sv _, sv _, sv _, sv _, sv _, sv _, sv _] (by kernel_rfl) rfl rfl rfl rfl ⟨
                    (by
                      intro Lq aq wq hd hj Kq hK
                      rw [if_pos (wanted_none rfl)]
                      have f7 := hj.base 7 rfl rfl
                      exact opMove hK rfl (ev f7) rfl),
                    (by
                      intro Lq aq wq hd hj Kq hK
                      rw [if_pos (wanted_none rfl)]
                      have f80 := hj.val 0 80 rfl rfl (by simp) rfl (hd ⟨0, .data⟩ (by simp) rfl)
                      exact opNil hK rfl (ev f80) rfl),
                    (by
                      intro Lq aq wq hd hj Kq hK
                      rw [if_pos (wanted_none rfl)]
                      have f81 := hj.val 1 81 rfl rfl (by simp) rfl (hd ⟨1, .data⟩ (by simp) rfl)
                      exact opFieldA hK rfl (k := 1) (ev f81) (fun W => by kernel_rfl) rfl),
                    (by
                      intro Lq aq wq hd hj Kq hK
                      rw [if_pos (wanted_none rfl)]
                      have f82 := hj.val 2 82 rfl rfl (by simp) rfl (hd ⟨2, .data⟩ (by simp) rfl)
                      first
                        | exact opLoad hK rfl (ev f82) Try.underlying59 rfl (Ext.cell ((Ext.refl None_ wl).drew.trans0 hj.ext) d1 (fun a => a)) rfl
                        | exact opLoad hK rfl (ev f82) Try.underlying59 rfl (Ext.cell ((Ext.refl None_ wl).drew.trans0 hj.ext) l1 (fun a => a)) rfl
                        | exact opLoad hK rfl (ev f82) Try.underlying59 rfl (Ext.cell ((Ext.refl None_ wl).drew.trans0 hj.ext) hc1 (fun a => a)) rfl),
                    (by
                      intro Lq aq wq hd hj Kq hK
                      rw [if_pos (wanted_none rfl)]
                      have f11 := hj.base 11 rfl rfl
                      exact opFieldA hK rfl (k := 1) (ev f11) (fun W => by kernel_rfl) rfl),
                    (by
                      intro Lq aq wq hd hj Kq hK
                      rw [if_pos (wanted_none rfl)]
                      have f84 := hj.val 4 84 rfl rfl (by simp) rfl (hd ⟨4, .data⟩ (by simp) rfl)
                      first
                        | exact opLoad hK rfl (ev f84) Try.underlying3 rfl (Ext.cell ((Ext.refl None_ wl).drew.trans0 hj.ext) d1 (fun a => a)) rfl
                        | exact opLoad hK rfl (ev f84) Try.underlying3 rfl (Ext.cell ((Ext.refl None_ wl).drew.trans0 hj.ext) l1 (fun a => a)) rfl
                        | exact opLoad hK rfl (ev f84) Try.underlying3 rfl (Ext.cell ((Ext.refl None_ wl).drew.trans0 hj.ext) hc1 (fun a => a)) rfl),
                    (by
                      intro Lq aq wq hd hj Kq hK
                      rw [if_pos (wanted_none rfl)]
                      have f83 := hj.val 3 83 rfl rfl (by simp) rfl (hd ⟨3, .data⟩ (by simp) rfl)
                      have f85 := hj.val 5 85 rfl rfl (by simp) rfl (hd ⟨5, .data⟩ (by simp) rfl)
                      exact opIndexB hK rfl (j := q.file) (ev f83) (ev f85) Try.underlying59 infoSl (by omega) (by omega) (by simp) rfl),
                    (by
                      intro Lq aq wq hd hj Kq hK
                      rw [if_pos (wanted_none rfl)]
                      have f86 := hj.val 6 86 rfl rfl (by simp) rfl (hd ⟨6, .data⟩ (by simp) rfl)
                      first
                        | exact opLoad hK rfl (ev f86) Try.underlying22 rfl (Ext.cell ((Ext.refl None_ wl).drew.trans0 hj.ext) d1 (fun a => a)) rfl
                        | exact opLoad hK rfl (ev f86) Try.underlying22 rfl (Ext.cell ((Ext.refl None_ wl).drew.trans0 hj.ext) l1 (fun a => a)) rfl
                        | exact opLoad hK rfl (ev f86) Try.underlying22 rfl (Ext.cell ((Ext.refl None_ wl).drew.trans0 hj.ext) hc1 (fun a => a)) rfl),
                    (by
                      intro Lq aq wq hd hj Kq hK
                      rw [if_pos (wanted_none rfl)]
                      have f87 := hj.val 7 87 rfl rfl (by simp) rfl (hd ⟨7, .data⟩ (by simp) rfl)
                      exact opAssign hK rfl (ev f87) rfl),
                    trivial⟩ ?fin
                  case fin =>
                    intro vs3 wm hx hg
                    have v8 : vs3 8 = _ := hg 8 (by decide)
                    have X3 := Lib.hid ((Ext.refl None_ wl).drew.trans0 hx)
                    clear hx hg
                    simp only [putAll, v8, Nat.reduceAdd, Nat.zero_add]
                    simp only [Act.put, List.setIfInBounds_toArray, List.set_cons_succ, List.set_cons_zero]
                    have k1 := X3.out.cell d1 (fun a => a)
                    have k2 := X3.out.cell d2 (fun a => a)
                    have kc := X3.out.cell hc1 (fun a => a)
                    have n0 := X3.out.cell l0 (fun a => a)
                    have n1 := X3.out.cell l1 (fun a => a)
                    have n2 := X3.out.cell l2 (fun a => a)
                    have kfb : ∀ i, wm.frozen? ⟨bg, i, none⟩ = false := fun i => by
                      have hh := X3.out.block bg (World.block_lt_of_cell? wl ⟨bg, q.file, none⟩ hc1) (fun a => a)
                      have h0 := dfb i
                      simp only [World.frozen?, hh] at h0 ⊢
                      exact h0
                    have HDM := Lib.hid (HDL.out.ext0 X3.out)
                    have HXM : Hid (Ext None_ w wm) := Lib.hid ((hxw.out.trans0 HXL.out).trans0 X3.out)
                    clear d0 d1 d2 d3 hc1 l0 l1 l2 dfb
                    cases hcut : q.cut with
                    | false =>
                      rw [hcut] at n0
                      have HS3 : Hid (crStep keep torn L F j q = F.set q.file (wrF f q.at_ pp)) := Lib.hid (by rw [HS2.out, if_neg (by rw [hcut]; decide)])
                      clear hcut
                      go_wp2_with fail
                      refine wp_region_last [sv _, sv _, sv _, sv _, sv _, sv _, sv _, sv _, sv _, sv _, sB (fun k => wm.heap.size ≤ k) (wrF f q.at_ pp), sv _] (by kernel_rfl) rfl rfl rfl rfl rfl (by decide) ⟨
                        (by
                          intro Lq aq wq hd hj Kq hK
                          rw [if_pos (wanted_none rfl)]
                          have f7 := hj.base 7 rfl rfl
                          exact opMove hK rfl (ev f7) rfl),
                        (by
                          intro Lq aq wq hd hj Kq hK
                          rw [if_pos (wanted_none rfl)]
                          have f92 := hj.val 0 92 rfl rfl (by simp) rfl (hd ⟨0, .data⟩ (by simp) rfl)
                          exact opNil hK rfl (ev f92) rfl),
                        (by
                          intro Lq aq wq hd hj Kq hK
                          rw [if_pos (wanted_none rfl)]
                          have f93 := hj.val 1 93 rfl rfl (by simp) rfl (hd ⟨1, .data⟩ (by simp) rfl)
                          exact opFieldA hK rfl (k := 1) (ev f93) (fun W => by kernel_rfl) rfl),
                        (by
                          intro Lq aq wq hd hj Kq hK
                          rw [if_pos (wanted_none rfl)]
                          have f94 := hj.val 2 94 rfl rfl (by simp) rfl (hd ⟨2, .data⟩ (by simp) rfl)
                          first
                            | exact opLoad hK rfl (ev f94) Try.underlying59 rfl (Ext.cell ((Ext.refl None_ wm).drew.trans0 hj.ext) k1 (fun a => a)) rfl
                            | exact opLoad hK rfl (ev f94) Try.underlying59 rfl (Ext.cell ((Ext.refl None_ wm).drew.trans0 hj.ext) n1 (fun a => a)) rfl
                            | exact opLoad hK rfl (ev f94) Try.underlying59 rfl (Ext.cell ((Ext.refl None_ wm).drew.trans0 hj.ext) n2 (fun a => a)) rfl),
                        (by
                          intro Lq aq wq hd hj Kq hK
                          rw [if_pos (wanted_none rfl)]
                          have f11 := hj.base 11 rfl rfl
                          exact opFieldA hK rfl (k := 1) (ev f11) (fun W => by kernel_rfl) rfl),
                        (by
                          intro Lq aq wq hd hj Kq hK
                          rw [if_pos (wanted_none rfl)]
                          have f96 := hj.val 4 96 rfl rfl (by simp) rfl (hd ⟨4, .data⟩ (by simp) rfl)
                          first
                            | exact opLoad hK rfl (ev f96) Try.underlying3 rfl (Ext.cell ((Ext.refl None_ wm).drew.trans0 hj.ext) k1 (fun a => a)) rfl
                            | exact opLoad hK rfl (ev f96) Try.underlying3 rfl (Ext.cell ((Ext.refl None_ wm).drew.trans0 hj.ext) n1 (fun a => a)) rfl
                            | exact opLoad hK rfl (ev f96) Try.underlying3 rfl (Ext.cell ((Ext.refl None_ wm).drew.trans0 hj.ext) n2 (fun a => a)) rfl),
                        (by
                          intro Lq aq wq hd hj Kq hK
                          rw [if_pos (wanted_none rfl)]
                          have f13 := hj.base 13 rfl rfl
                          exact opMove hK rfl (ev f13) rfl),
                        (by
                          intro Lq aq wq hd hj Kq hK
                          rw [if_pos (wanted_none rfl)]
                          have f11 := hj.base 11 rfl rfl
                          exact opFieldA hK rfl (k := 2) (ev f11) (fun W => by kernel_rfl) rfl),
                        (by
                          intro Lq aq wq hd hj Kq hK
                          rw [if_pos (wanted_none rfl)]
                          have f99 := hj.val 7 99 rfl rfl (by simp) rfl (hd ⟨7, .data⟩ (by simp) rfl)
                          first
                            | exact opLoad hK rfl (ev f99) Try.underlying3 rfl (Ext.cell ((Ext.refl None_ wm).drew.trans0 hj.ext) k1 (fun a => a)) rfl
                            | exact opLoad hK rfl (ev f99) Try.underlying3 rfl (Ext.cell ((Ext.refl None_ wm).drew.trans0 hj.ext) n1 (fun a => a)) rfl
                            | exact opLoad hK rfl (ev f99) Try.underlying3 rfl (Ext.cell ((Ext.refl None_ wm).drew.trans0 hj.ext) n2 (fun a => a)) rfl),
                        (by
                          intro Lq aq wq hd hj Kq hK
                          rw [if_pos (wanted_none rfl)]
                          have f12 := hj.base 12 rfl rfl
                          exact opMove hK rfl (ev f12) rfl),
                        (by
                          intro Lq aq wq hd hj Kq hK
                          rw [if_pos (wanted_none rfl)]
                          have f98 := hj.val 6 98 rfl rfl (by simp) rfl (hd ⟨6, .data⟩ (by simp) rfl)
                          have f100 := hj.val 8 100 rfl rfl (by simp) rfl (hd ⟨8, .data⟩ (by simp) rfl)
                          have f101 := hj.val 9 101 rfl rfl (by simp) rfl (hd ⟨9, .data⟩ (by simp) rfl)
                          exact opCall hK Try.func53 (by kernel_rfl) rfl (args := #[.slice A1 f.length cc1, .int .i64 q.at_, .slice B pp.length cb]) (by simp [ev f98, ev f100, ev f101]) ((written_any A1 cc1 f q.at_ B cb pp _ ((HR1.out.ext0 X3.out).ext0 ((Ext.refl None_ wm).drew.trans0 hj.ext)) (HPR.out _ (X3.out.trans0 ((Ext.refl None_ wm).drew.trans0 hj.ext))) hll (by omega) (by omega)).mono fun e w' ⟨v', h1, h2, h3⟩ => ⟨v', h1, OwnB.mono h2 (fun k _ hk => Nat.le_trans (Ext.size ((Ext.refl None_ wm).drew.trans0 hj.ext)) hk), h3⟩)),
                        (by
                          intro Lq aq wq hd hj Kq hK
                          rw [if_pos (wanted_none rfl)]
                          have f95 := hj.val 3 95 rfl rfl (by simp) rfl (hd ⟨3, .data⟩ (by simp) rfl)
                          have f97 := hj.val 5 97 rfl rfl (by simp) rfl (hd ⟨5, .data⟩ (by simp) rfl)
                          exact opIndexB hK rfl (j := q.file) (ev f95) (ev f97) Try.underlying59 infoSl (by omega) (by omega) (by simp) rfl),
                        trivial⟩ ?fin
                      case fin =>
                        intro vs4 wT hx hg
                        have v11 : vs4 11 = .pointer (some ⟨bg, q.file, none⟩) := hg 11 (by decide)
                        have v10 : OwnB wT (fun k => wm.heap.size ≤ k) (vs4 10) (wrF f q.at_ pp) := hg 10 (by decide)
                        have X4 := Lib.hid ((Ext.refl None_ wm).drew.trans0 hx)
                        obtain ⟨Ax, cx, hvx, _⟩ := Own.slice v10
                        rw [hvx] at v10
                        clear hx hg
                        simp only [List.dropLast, List.getLast?, List.getLast, Option.toList, putAll, v11, hvx, Nat.reduceAdd, Nat.zero_add]
                        simp only [Act.put, List.setIfInBounds_toArray, List.set_cons_succ, List.set_cons_zero]
                        have hby2 : Byt (wrF f q.at_ pp) := wrF_byt HBY1.out HPB.out
                        have hfl2 : (wrF f q.at_ pp).length ≤ 1048576 := by rw [wrF_length]; omega
                        obtain ⟨HN1, HN2⟩ := HDM.out.moreC v10 hby2 X4.out
                        obtain ⟨HM1, HM2⟩ := HN1.setFile (bs := bh) (X4.out.cell k1 (fun a => a)) HN2 hfl2 q.file
                        have mc := X4.out.cell kc (fun a => a)
                        have mf : wT.frozen? ⟨bg, q.file, none⟩ = false := by
                          have hh := X4.out.block bg (World.block_lt_of_cell? wm ⟨bg, q.file, none⟩ kc) (fun a => a)
                          have h0 := kfb q.file
                          simp only [World.frozen?, hh] at h0 ⊢
                          exact h0
                        have HM1 := Lib.hid HM1
                        have HM2 := Lib.hid HM2
                        have HC9 := Lib.hid (fun k (hk : C2 k ∨ (Value.slice Ax (wrF f q.at_ pp).length cx).ownBlock = some k) => show C k ∨ w.heap.size ≤ k from by
                          rcases hk with hk | hk
                          · exact hcr.out k hk
                          · exact .inr (Nat.le_trans HXM.out.size (v10.blk k hk)))
                        clear HN1 HN2 v10 hby2 hfl2
                        go_wp2_with fail
                        go_roundw
                        case rel =>
                          refine ⟨j + 1, _, by go_num, by omega, Lib.hid ?_, HC9, Lib.hid ?_⟩
                          · rw [HST.out, HS3.out]
                            exact HM1.out
                          · exact (HXM.out.trans0 X4.out).trans HM2.out (fun k hk e => by have := e.1; omega)
                        case measure => simp [intOf]; omega
                    | true =>
                      rw [hcut] at n0
                      by_cases hat : q.at_ ≤ f.length
                      · have HS3 : Hid (crStep keep torn L F j q = F.set q.file (f.take q.at_)) := Lib.hid (by rw [HS2.out, if_pos hcut, if_pos hat])
                        have hatd : decide ((q.at_ : Int) ≤ (f.length : Int)) = true := by simp [hat]
                        obtain ⟨A5, hA5, hcut5⟩ := cut_hm (P := Try.prog) 22 5 1 Try.underlying22 infoU8 A1 f.length cc1 (q.at_ : Int) (q.at_ : Int) (by omega) (by omega) (by omega)
                        rw [show (q.at_ : Int).toNat = q.at_ by omega] at hcut5 hA5
                        have HSL5 : Hid (∀ W, Ext None_ wl W → Row W A5 (B8 (f.take q.at_))) := Lib.hid (fun W hx => by
                          by_cases h0 : q.at_ = 0
                          · rw [h0]; exact Row.nil _ _
                          · rw [hA5, if_neg h0]
                            have := ((HR1.out.ext0 hx).take q.at_).drop 0
                            simpa [B8, List.map_take] using this)
                        have HB5 : Hid (∀ ad, A5 = some ad → ∃ ad0, A1 = some ad0 ∧ ad.block = ad0.block) := Lib.hid (fun ad e => by
                          rw [hA5] at e
                          split at e
                          · exact ⟨ad, e, rfl⟩
                          · cases A1 with
                            | none => cases e
                            | some ad0 => cases e; exact ⟨ad0, rfl, add_block _ _⟩)
                        have HCU := Lib.hid hcut5
                        clear hcut hA5 hcut5
                        go_wp2_with fail
                        refine wp_region_last [sv _, sv _, sv _, sv _, sv _, sv _, sv _, sv _, sv _, sv _, sv _, sv (.slice A5 q.at_ q.at_), sv _] (by kernel_rfl) rfl rfl rfl rfl rfl (by decide) ⟨
                          (by
                            intro Lq aq wq hd hj Kq hK
                            rw [if_pos (wanted_none rfl)]
                            have f7 := hj.base 7 rfl rfl
                            exact opMove hK rfl (ev f7) rfl),
                          (by
                            intro Lq aq wq hd hj Kq hK
                            rw [if_pos (wanted_none rfl)]
                            have f110 := hj.val 0 110 rfl rfl (by simp) rfl (hd ⟨0, .data⟩ (by simp) rfl)
                            exact opNil hK rfl (ev f110) rfl),
                          (by
                            intro Lq aq wq hd hj Kq hK
                            rw [if_pos (wanted_none rfl)]
                            have f111 := hj.val 1 111 rfl rfl (by simp) rfl (hd ⟨1, .data⟩ (by simp) rfl)
                            exact opFieldA hK rfl (k := 1) (ev f111) (fun W => by kernel_rfl) rfl),
                          (by
                            intro Lq aq wq hd hj Kq hK
                            rw [if_pos (wanted_none rfl)]
                            have f112 := hj.val 2 112 rfl rfl (by simp) rfl (hd ⟨2, .data⟩ (by simp) rfl)
                            first
                              | exact opLoad hK rfl (ev f112) Try.underlying59 rfl (Ext.cell ((Ext.refl None_ wm).drew.trans0 hj.ext) k1 (fun a => a)) rfl
                              | exact opLoad hK rfl (ev f112) Try.underlying59 rfl (Ext.cell ((Ext.refl None_ wm).drew.trans0 hj.ext) n1 (fun a => a)) rfl
                              | exact opLoad hK rfl (ev f112) Try.underlying59 rfl (Ext.cell ((Ext.refl None_ wm).drew.trans0 hj.ext) n2 (fun a => a)) rfl),
                          (by
                            intro Lq aq wq hd hj Kq hK
                            rw [if_pos (wanted_none rfl)]
                            have f11 := hj.base 11 rfl rfl
                            exact opFieldA hK rfl (k := 1) (ev f11) (fun W => by kernel_rfl) rfl),
                          (by
                            intro Lq aq wq hd hj Kq hK
                            rw [if_pos (wanted_none rfl)]
                            have f114 := hj.val 4 114 rfl rfl (by simp) rfl (hd ⟨4, .data⟩ (by simp) rfl)
                            first
                              | exact opLoad hK rfl (ev f114) Try.underlying3 rfl (Ext.cell ((Ext.refl None_ wm).drew.trans0 hj.ext) k1 (fun a => a)) rfl
                              | exact opLoad hK rfl (ev f114) Try.underlying3 rfl (Ext.cell ((Ext.refl None_ wm).drew.trans0 hj.ext) n1 (fun a => a)) rfl
                              | exact opLoad hK rfl (ev f114) Try.underlying3 rfl (Ext.cell ((Ext.refl None_ wm).drew.trans0 hj.ext) n2 (fun a => a)) rfl),
                          (by
                            intro Lq aq wq hd hj Kq hK
                            rw [if_pos (wanted_none rfl)]
                            have f13 := hj.base 13 rfl rfl
                            exact opMove hK rfl (ev f13) rfl),
                          (by
                            intro Lq aq wq hd hj Kq hK
                            rw [if_pos (wanted_none rfl)]
                            have f11 := hj.base 11 rfl rfl
                            exact opFieldA hK rfl (k := 2) (ev f11) (fun W => by kernel_rfl) rfl),
                          (by
                            intro Lq aq wq hd hj Kq hK
                            rw [if_pos (wanted_none rfl)]
                            have f117 := hj.val 7 117 rfl rfl (by simp) rfl (hd ⟨7, .data⟩ (by simp) rfl)
                            first
                              | exact opLoad hK rfl (ev f117) Try.underlying3 rfl (Ext.cell ((Ext.refl None_ wm).drew.trans0 hj.ext) k1 (fun a => a)) rfl
                              | exact opLoad hK rfl (ev f117) Try.underlying3 rfl (Ext.cell ((Ext.refl None_ wm).drew.trans0 hj.ext) n1 (fun a => a)) rfl
                              | exact opLoad hK rfl (ev f117) Try.underlying3 rfl (Ext.cell ((Ext.refl None_ wm).drew.trans0 hj.ext) n2 (fun a => a)) rfl),
                          (by
                            intro Lq aq wq hd hj Kq hK
                            rw [if_pos (wanted_none rfl)]
                            have f11 := hj.base 11 rfl rfl
                            exact opFieldA hK rfl (k := 2) (ev f11) (fun W => by kernel_rfl) rfl),
                          (by
                            intro Lq aq wq hd hj Kq hK
                            rw [if_pos (wanted_none rfl)]
                            have f119 := hj.val 9 119 rfl rfl (by simp) rfl (hd ⟨9, .data⟩ (by simp) rfl)
                            first
                              | exact opLoad hK rfl (ev f119) Try.underlying3 rfl (Ext.cell ((Ext.refl None_ wm).drew.trans0 hj.ext) k1 (fun a => a)) rfl
                              | exact opLoad hK rfl (ev f119) Try.underlying3 rfl (Ext.cell ((Ext.refl None_ wm).drew.trans0 hj.ext) n1 (fun a => a)) rfl
                              | exact opLoad hK rfl (ev f119) Try.underlying3 rfl (Ext.cell ((Ext.refl None_ wm).drew.trans0 hj.ext) n2 (fun a => a)) rfl),
                          (by
                            intro Lq aq wq hd hj Kq hK
                            rw [if_pos (wanted_none rfl)]
                            have f116 := hj.val 6 116 rfl rfl (by simp) rfl (hd ⟨6, .data⟩ (by simp) rfl)
                            have f118 := hj.val 8 118 rfl rfl (by simp) rfl (hd ⟨8, .data⟩ (by simp) rfl)
                            have f120 := hj.val 10 120 rfl rfl (by simp) rfl (hd ⟨10, .data⟩ (by simp) rfl)
                            exact opSliceOp hK rfl (ev f116) rfl (congrArg some (ev f118)) (congrArg some (ev f120)) Try.underlying22 HCU.out rfl),
                          (by
                            intro Lq aq wq hd hj Kq hK
                            rw [if_pos (wanted_none rfl)]
                            have f113 := hj.val 3 113 rfl rfl (by simp) rfl (hd ⟨3, .data⟩ (by simp) rfl)
                            have f115 := hj.val 5 115 rfl rfl (by simp) rfl (hd ⟨5, .data⟩ (by simp) rfl)
                            exact opIndexB hK rfl (j := q.file) (ev f113) (ev f115) Try.underlying59 infoSl (by omega) (by omega) (by simp) rfl),
                          trivial⟩ ?fin
                        case fin =>
                          intro vs4 wT hx hg
                          have v12 : vs4 12 = .pointer (some ⟨bg, q.file, none⟩) := hg 12 (by decide)
                          have v11 : vs4 11 = .slice A5 q.at_ q.at_ := hg 11 (by decide)
                          have X4 := Lib.hid ((Ext.refl None_ wm).drew.trans0 hx)
                          clear hx hg
                          simp only [List.dropLast, List.getLast?, List.getLast, Option.toList, putAll, v11, v12, Nat.reduceAdd, Nat.zero_add]
                          simp only [Act.put, List.setIfInBounds_toArray, List.set_cons_succ, List.set_cons_zero]
                          have hDT := HDM.out.ext0 X4.out
                          have hsl5 : Sl wT C2 (.slice A5 q.at_ q.at_) (f.take q.at_) := by
                            refine ⟨A5, q.at_, by rw [List.length_take, Nat.min_eq_left hat], HSL5.out _ (X3.out.trans0 X4.out), by rw [List.length_take]; omega, by omega, fun x hx => HBY1.out x (List.mem_of_mem_take hx), fun ad e => ?_⟩
                            obtain ⟨ad0, e0, hb⟩ := HB5.out ad e
                            obtain ⟨A6, c6, e6, _, _, _, _, hbl6⟩ := (hDT.tabs (X4.out.cell k1 (fun a => a)) (X4.out.cell k2 (fun a => a))).1.file (i := q.file) (by rw [hDT.ok.f64]; exact hq64)
                            have e7 := X4.out.cell kc (fun a => a)
                            rw [e6] at e7
                            obtain rfl : A6 = A1 := by simpa using (by simpa using e7 : A6 = A1 ∧ _ ∧ _).1
                            rw [hb]
                            exact hbl6 ad0 e0
                          obtain ⟨HM1, HM2⟩ := hDT.setFile (bs := bh) (X4.out.cell k1 (fun a => a)) hsl5 (by rw [List.length_take]; omega) q.file
                          have mc := X4.out.cell kc (fun a => a)
                          have mf : wT.frozen? ⟨bg, q.file, none⟩ = false := by
                            have hh := X4.out.block bg (World.block_lt_of_cell? wm ⟨bg, q.file, none⟩ kc) (fun a => a)
                            have h0 := kfb q.file
                            simp only [World.frozen?, hh] at h0 ⊢
                            exact h0
                          have HM1 := Lib.hid HM1
                          have HM2 := Lib.hid HM2
                          clear hsl5 hDT
                          go_wp2_with fail
                          go_roundw
                          case rel =>
                            refine ⟨j + 1, _, by go_num, by omega, Lib.hid ?_, hcr, Lib.hid ?_⟩
                            · rw [HST.out, HS3.out]
                              exact HM1.out
                            · exact (HXM.out.trans0 X4.out).trans HM2.out (fun k hk e => by have := e.1; omega)
                          case measure => simp [intOf]; omega
                      · have HS3 : Hid (crStep keep torn L F j q = F) := Lib.hid (by rw [HS2.out, if_pos hcut, if_neg hat])
                        have hatd : decide ((q.at_ : Int) ≤ (f.length : Int)) = false := by simp; omega
                        clear hcut
                        go_wp2_with fail
                        go_roundw
                        case rel => exact ⟨j + 1, C2, by go_num, by omega, Lib.hid (by rw [HST.out, HS3.out]; exact HDM.out), hcr, HXM⟩
                        case measure => simp [intOf]; omega
              · have hpe : pp = q.p := by rw [hpp]; unfold tornP; rw [if_neg (fun h => ht1 h.1)]
                have hk1 : ((j : Int) == L) = false := by simp [ht1]
                clear ht1
                go_wp2_with fail
                obtain ⟨wl, hwl⟩ : ∃ wl, wl = wr.alloc (.cells #[.bool q.cut, .int .i64 q.file, .int .i64 q.at_, .slice B q.p.length cb] 81) := ⟨_, rfl⟩
                rw [← hwl]
                have hbl : Blk wl wr.heap.size #[.bool q.cut, .int .i64 q.file, .int .i64 q.at_, .slice B q.p.length cb] 81 := hwl ▸ Blk.new wr _ _
                have l0 := hbl.cell 0
                have l1 := hbl.cell 1
                have l2 := hbl.cell 2
                have HXL : Hid (Ext None_ wr wl) := Lib.hid (hwl ▸ (Ext.refl None_ wr).alloc _)
                have HDL := Lib.hid (hdr.out.ext0 HXL.out)
                have HPR : Hid (∀ W, Ext None_ wl W → Row W B (B8 pp)) := Lib.hid (fun W hx => by rw [hpe]; exact (HBR.out.ext0 HXL.out).ext0 hx)
                have HPB : Hid (Byt pp) := Lib.hid (by rw [hpe]; first | exact HBY.out | exact fun x hx => HBY.out x (List.mem_of_mem_take hx))
                have hppl : pp.length = q.p.length := by subst hpe; first | rfl | (rw [List.length_take]; omega)
                have hppm : q.at_ + pp.length ≤ 1048576 := by rw [hppl]; omega
                rw [← hppl]
                clear hwl hbl hpe hpp q0 q1 q2 q3 m3 m3r hb1'
                obtain ⟨f, hf⟩ : ∃ f, f = fileAt F q.file := ⟨_, rfl⟩
                have HFF := Lib.hid hf
                rw [← hf] at HS2
                obtain ⟨bg, bh, Aw, cw, A1, cc1, ⟨d0, d1, d2, d3⟩, dg, dfb, hc1, HR1, hcc1, HBY1, hll⟩ := HDL.out.fileN (l := f) (n := q.file) hf hq64
                clear hf
                refine wp_region_mem [sv _, sv _, sv _, sv _, sv _, sv _, sv _, sv _, sv _] (by kernel_rfl) rfl rfl rfl rfl ⟨
                  (by
                    intro Lq aq wq hd hj Kq hK
                    rw [if_pos (wanted_none rfl)]
                    have f7 := hj.base 7 rfl rfl
                    exact opMove hK rfl (ev f7) rfl),
                  (by
                    intro Lq aq wq hd hj Kq hK
                    rw [if_pos (wanted_none rfl)]
                    have f80 := hj.val 0 80 rfl rfl (by simp) rfl (hd ⟨0, .data⟩ (by simp) rfl)
                    exact opNil hK rfl (ev f80) rfl),
                  (by
                    intro Lq aq wq hd hj Kq hK
                    rw [if_pos (wanted_none rfl)]
                    have f81 := hj.val 1 81 rfl rfl (by simp) rfl (hd ⟨1, .data⟩ (by simp) rfl)
                    exact opFieldA hK rfl (k := 1) (ev f81) (fun W => by kernel_rfl) rfl),
                  (by
                    intro Lq aq wq hd hj Kq hK
                    rw [if_pos (wanted_none rfl)]
                    have f82 := hj.val 2 82 rfl rfl (by simp) rfl (hd ⟨2, .data⟩ (by simp) rfl)
                    first
                      | exact opLoad hK rfl (ev f82) Try.underlying59 rfl (Ext.cell ((Ext.refl None_ wl).drew.trans0 hj.ext) d1 (fun a => a)) rfl
                      | exact opLoad hK rfl (ev f82) Try.underlying59 rfl (Ext.cell ((Ext.refl None_ wl).drew.trans0 hj.ext) l1 (fun a => a)) rfl
                      | exact opLoad hK rfl (ev f82) Try.underlying59 rfl (Ext.cell ((Ext.refl None_ wl).drew.trans0 hj.ext) hc1 (fun a => a)) rfl),
                  (by
                    intro Lq aq wq hd hj Kq hK
                    rw [if_pos (wanted_none rfl)]
                    have f11 := hj.base 11 rfl rfl
                    exact opFieldA hK rfl (k := 1) (ev f11) (fun W => by kernel_rfl) rfl),
                  (by
                    intro Lq aq wq hd hj Kq hK
                    rw [if_pos (wanted_none rfl)]
                    have f84 := hj.val 4 84 rfl rfl (by simp) rfl (hd ⟨4, .data⟩ (by simp) rfl)
                    first
                      | exact opLoad hK rfl (ev f84) Try.underlying3 rfl (Ext.cell ((Ext.refl None_ wl).drew.trans0 hj.ext) d1 (fun a => a)) rfl
                      | exact opLoad hK rfl (ev f84) Try.underlying3 rfl (Ext.cell ((Ext.refl None_ wl).drew.trans0 hj.ext) l1 (fun a => a)) rfl
                      | exact opLoad hK rfl (ev f84) Try.underlying3 rfl (Ext.cell ((Ext.refl None_ wl).drew.trans0 hj.ext) hc1 (fun a => a)) rfl),
                  (by
                    intro Lq aq wq hd hj Kq hK
                    rw [if_pos (wanted_none rfl)]
                    have f83 := hj.val 3 83 rfl rfl (by simp) rfl (hd ⟨3, .data⟩ (by simp) rfl)
                    have f85 := hj.val 5 85 rfl rfl (by simp) rfl (hd ⟨5, .data⟩ (by simp) rfl)
                    exact opIndexB hK rfl (j := q.file) (ev f83) (ev f85) Try.underlying59 infoSl (by omega) (by omega) (by simp) rfl),
                  (by
                    intro Lq aq wq hd hj Kq hK
                    rw [if_pos (wanted_none rfl)]
                    have f86 := hj.val 6 86 rfl rfl (by simp) rfl (hd ⟨6, .data⟩ (by simp) rfl)
                    first
                      | exact opLoad hK rfl (ev f86) Try.underlying22 rfl (Ext.cell ((Ext.refl None_ wl).drew.trans0 hj.ext) d1 (fun a => a)) rfl
                      | exact opLoad hK rfl (ev f86) Try.underlying22 rfl (Ext.cell ((Ext.refl None_ wl).drew.trans0 hj.ext) l1 (fun a => a)) rfl
                      | exact opLoad hK rfl (ev f86) Try.underlying22 rfl (Ext.cell ((Ext.refl None_ wl).drew.trans0 hj.ext) hc1 (fun a => a)) rfl),
                  (by
                    intro Lq aq wq hd hj Kq hK
                    rw [if_pos (wanted_none rfl)]
                    have f87 := hj.val 7 87 rfl rfl (by simp) rfl (hd ⟨7, .data⟩ (by simp) rfl)
                    exact opAssign hK rfl (ev f87) rfl),
                  trivial⟩ ?fin
                case fin =>
                  intro vs3 wm hx hg
                  have v8 : vs3 8 = _ := hg 8 (by decide)
                  have X3 := Lib.hid ((Ext.refl None_ wl).drew.trans0 hx)
                  clear hx hg
                  simp only [putAll, v8, Nat.reduceAdd, Nat.zero_add]
                  simp only [Act.put, List.setIfInBounds_toArray, List.set_cons_succ, List.set_cons_zero]
                  have k1 := X3.out.cell d1 (fun a => a)
                  have k2 := X3.out.cell d2 (fun a => a)
                  have kc := X3.out.cell hc1 (fun a => a)
                  have n0 := X3.out.cell l0 (fun a => a)
                  have n1 := X3.out.cell l1 (fun a => a)
                  have n2 := X3.out.cell l2 (fun a => a)
                  have kfb : ∀ i, wm.frozen? ⟨bg, i, none⟩ = false := fun i => by
                    have hh := X3.out.block bg (World.block_lt_of_cell? wl ⟨bg, q.file, none⟩ hc1) (fun a => a)
                    have h0 := dfb i
                    simp only [World.frozen?, hh] at h0 ⊢
                    exact h0
                  have HDM := Lib.hid (HDL.out.ext0 X3.out)
                  have HXM : Hid (Ext None_ w wm) := Lib.hid ((hxw.out.trans0 HXL.out).trans0 X3.out)
                  clear d0 d1 d2 d3 hc1 l0 l1 l2 dfb
                  cases hcut : q.cut with
                  | false =>
                    rw [hcut] at n0
                    have HS3 : Hid (crStep keep torn L F j q = F.set q.file (wrF f q.at_ pp)) := Lib.hid (by rw [HS2.out, if_neg (by rw [hcut]; decide)])
                    clear hcut
                    go_wp2_with fail
                    refine wp_region_last [sv _, sv _, sv _, sv _, sv _, sv _, sv _, sv _, sv _, sv _, sB (fun k => wm.heap.size ≤ k) (wrF f q.at_ pp), sv _] (by kernel_rfl) rfl rfl rfl rfl rfl (by decide) ⟨
                      (by
                        intro Lq aq wq hd hj Kq hK
                        rw [if_pos (wanted_none rfl)]
                        have f7 := hj.base 7 rfl rfl
                        exact opMove hK rfl (ev f7) rfl),
                      (by
                        intro Lq aq wq hd hj Kq hK
                        rw [if_pos (wanted_none rfl)]
                        have f92 := hj.val 0 92 rfl rfl (by simp) rfl (hd ⟨0, .data⟩ (by simp) rfl)
                        exact opNil hK rfl (ev f92) rfl),
                      (by
                        intro Lq aq wq hd hj Kq hK
                        rw [if_pos (wanted_none rfl)]
                        have f93 := hj.val 1 93 rfl rfl (by simp) rfl (hd ⟨1, .data⟩ (by simp) rfl)
                        exact opFieldA hK rfl (k := 1) (ev f93) (fun W => by kernel_rfl) rfl),
                      (by
                        intro Lq aq wq hd hj Kq hK
                        rw [if_pos (wanted_none rfl)]
                        have f94 := hj.val 2 94 rfl rfl (by simp) rfl (hd ⟨2, .data⟩ (by simp) rfl)
                        first
                          | exact opLoad hK rfl (ev f94) Try.underlying59 rfl (Ext.cell ((Ext.refl None_ wm).drew.trans0 hj.ext) k1 (fun a => a)) rfl
                          | exact opLoad hK rfl (ev f94) Try.underlying59 rfl (Ext.cell ((Ext.refl None_ wm).drew.trans0 hj.ext) n1 (fun a => a)) rfl
                          | exact opLoad hK rfl (ev f94) Try.underlying59 rfl (Ext.cell ((Ext.refl None_ wm).drew.trans0 hj.ext) n2 (fun a => a)) rfl),
                      (by
                        intro Lq aq wq hd hj Kq hK
                        rw [if_pos (wanted_none rfl)]
                        have f11 := hj.base 11 rfl rfl
                        exact opFieldA hK rfl (k := 1) (ev f11) (fun W => by kernel_rfl) rfl),
                      (by
                        intro Lq aq wq hd hj Kq hK
                        rw [if_pos (wanted_none rfl)]
                        have f96 := hj.val 4 96 rfl rfl (by simp) rfl (hd ⟨4, .data⟩ (by simp) rfl)
                        first
                          | exact opLoad hK rfl (ev f96) Try.underlying3 rfl (Ext.cell ((Ext.refl None_ wm).drew.trans0 hj.ext) k1 (fun a => a)) rfl
                          | exact opLoad hK rfl (ev f96) Try.underlying3 rfl (Ext.cell ((Ext.refl None_ wm).drew.trans0 hj.ext) n1 (fun a => a)) rfl
                          | exact opLoad hK rfl (ev f96) Try.underlying3 rfl (Ext.cell ((Ext.refl None_ wm).drew.trans0 hj.ext) n2 (fun a => a)) rfl),
                      (by
                        intro Lq aq wq hd hj Kq hK
                        rw [if_pos (wanted_none rfl)]
                        have f13 := hj.base 13 rfl rfl
                        exact opMove hK rfl (ev f13) rfl),
                      (by
                        intro Lq aq wq hd hj Kq hK
                        rw [if_pos (wanted_none rfl)]
                        have f11 := hj.base 11 rfl rfl
                        exact opFieldA hK rfl (k := 2) (ev f11) (fun W => by kernel_rfl) rfl),
                      (by
                        intro Lq aq wq hd hj Kq hK
                        rw [if_pos (wanted_none rfl)]
                        have f99 := hj.val 7 99 rfl rfl (by simp) rfl (hd ⟨7, .data⟩ (by simp) rfl)
                        first
                          | exact opLoad hK rfl (ev f99) Try.underlying3 rfl (Ext.cell ((Ext.refl None_ wm).drew.trans0 hj.ext) k1 (fun a => a)) rfl
                          | exact opLoad hK rfl (ev f99) Try.underlying3 rfl (Ext.cell ((Ext.refl None_ wm).drew.trans0 hj.ext) n1 (fun a => a)) rfl
                          | exact opLoad hK rfl (ev f99) Try.underlying3 rfl (Ext.cell ((Ext.refl None_ wm).drew.trans0 hj.ext) n2 (fun a => a)) rfl),
                      (by
                        intro Lq aq wq hd hj Kq hK
                        rw [if_pos (wanted_none rfl)]
                        have f12 := hj.base 12 rfl rfl
                        exact opMove hK rfl (ev f12) rfl),
                      (by
                        intro Lq aq wq hd hj Kq hK
                        rw [if_pos (wanted_none rfl)]
                        have f98 := hj.val 6 98 rfl rfl (by simp) rfl (hd ⟨6, .data⟩ (by simp) rfl)
                        have f100 := hj.val 8 100 rfl rfl (by simp) rfl (hd ⟨8, .data⟩ (by simp) rfl)
                        have f101 := hj.val 9 101 rfl rfl (by simp) rfl (hd ⟨9, .data⟩ (by simp) rfl)
                        exact opCall hK Try.func53 (by kernel_rfl) rfl (args := #[.slice A1 f.length cc1, .int .i64 q.at_, .slice B pp.length cb]) (by simp [ev f98, ev f100, ev f101]) ((written_any A1 cc1 f q.at_ B cb pp _ ((HR1.out.ext0 X3.out).ext0 ((Ext.refl None_ wm).drew.trans0 hj.ext)) (HPR.out _ (X3.out.trans0 ((Ext.refl None_ wm).drew.trans0 hj.ext))) hll (by omega) (by omega)).mono fun e w' ⟨v', h1, h2, h3⟩ => ⟨v', h1, OwnB.mono h2 (fun k _ hk => Nat.le_trans (Ext.size ((Ext.refl None_ wm).drew.trans0 hj.ext)) hk), h3⟩)),
                      (by
                        intro Lq aq wq hd hj Kq hK
                        rw [if_pos (wanted_none rfl)]
                        have f95 := hj.val 3 95 rfl rfl (by simp) rfl (hd ⟨3, .data⟩ (by simp) rfl)
                        have f97 := hj.val 5 97 rfl rfl (by simp) rfl (hd ⟨5, .data⟩ (by simp) rfl)
                        exact opIndexB hK rfl (j := q.file) (ev f95) (ev f97) Try.underlying59 infoSl (by omega) (by omega) (by simp) rfl),
                      trivial⟩ ?fin
                    case fin =>
                      intro vs4 wT hx hg
                      have v11 : vs4 11 = .pointer (some ⟨bg, q.file, none⟩) := hg 11 (by decide)
                      have v10 : OwnB wT (fun k => wm.heap.size ≤ k) (vs4 10) (wrF f q.at_ pp) := hg 10 (by decide)
                      have X4 := Lib.hid ((Ext.refl None_ wm).drew.trans0 hx)
                      obtain ⟨Ax, cx, hvx, _⟩ := Own.slice v10
                      rw [hvx] at v10
                      clear hx hg
                      simp only [List.dropLast, List.getLast?, List.getLast, Option.toList, putAll, v11, hvx, Nat.reduceAdd, Nat.zero_add]
                      simp only [Act.put, List.setIfInBounds_toArray, List.set_cons_succ, List.set_cons_zero]
                      have hby2 : Byt (wrF f q.at_ pp) := wrF_byt HBY1.out HPB.out
                      have hfl2 : (wrF f q.at_ pp).length ≤ 1048576 := by rw [wrF_length]; omega
                      obtain ⟨HN1, HN2⟩ := HDM.out.moreC v10 hby2 X4.out
                      obtain ⟨HM1, HM2⟩ := HN1.setFile (bs := bh) (X4.out.cell k1 (fun a => a)) HN2 hfl2 q.file
                      have mc := X4.out.cell kc (fun a => a)
                      have mf : wT.frozen? ⟨bg, q.file, none⟩ = false := by
                        have hh := X4.out.block bg (World.block_lt_of_cell? wm ⟨bg, q.file, none⟩ kc) (fun a => a)
                        have h0 := kfb q.file
                        simp only [World.frozen?, hh] at h0 ⊢
                        exact h0
                      have HM1 := Lib.hid HM1
                      have HM2 := Lib.hid HM2
                      have HC9 := Lib.hid (fun k (hk : C2 k ∨ (Value.slice Ax (wrF f q.at_ pp).length cx).ownBlock = some k) => show C k ∨ w.heap.size ≤ k from by
                        rcases hk with hk | hk
                        · exact hcr.out k hk
                        · exact .inr (Nat.le_trans HXM.out.size (v10.blk k hk)))
                      clear HN1 HN2 v10 hby2 hfl2
                      go_wp2_with fail
                      go_roundw
                      case rel =>
                        refine ⟨j + 1, _, by go_num, by omega, Lib.hid ?_, HC9, Lib.hid ?_⟩
                        · rw [HST.out, HS3.out]
                          exact HM1.out
                        · exact (HXM.out.trans0 X4.out).trans HM2.out (fun k hk e => by have := e.1; omega)
                      case measure => simp [intOf]; omega
                  | true =>
                    rw [hcut] at n0
                    by_cases hat : q.at_ ≤ f.length
                    · have HS3 : Hid (crStep keep torn L F j q = F.set q.file (f.take q.at_)) := Lib.hid (by rw [HS2.out, if_pos hcut, if_pos hat])
                      have hatd : decide ((q.at_ : Int) ≤ (f.length : Int)) = true := by simp [hat]
                      obtain ⟨A5, hA5, hcut5⟩ := cut_hm (P := Try.prog) 22 5 1 Try.underlying22 infoU8 A1 f.length cc1 (q.at_ : Int) (q.at_ : Int) (by omega) (by omega) (by omega)
                      rw [show (q.at_ : Int).toNat = q.at_ by omega] at hcut5 hA5
                      have HSL5 : Hid (∀ W, Ext None_ wl W → Row W A5 (B8 (f.take q.at_))) := Lib.hid (fun W hx => by
                        by_cases h0 : q.at_ = 0
                        · rw [h0]; exact Row.nil _ _
                        · rw [hA5, if_neg h0]
                          have := ((HR1.out.ext0 hx).take q.at_).drop 0
                          simpa [B8, List.map_take] using this)
                      have HB5 : Hid (∀ ad, A5 = some ad → ∃ ad0, A1 = some ad0 ∧ ad.block = ad0.block) := Lib.hid (fun ad e => by
                        rw [hA5] at e
                        split at e
                        · exact ⟨ad, e, rfl⟩
                        · cases A1 with
                          | none => cases e
                          | some ad0 => cases e; exact ⟨ad0, rfl, add_block _ _⟩)
                      have HCU := Lib.hid hcut5
                      clear hcut hA5 hcut5
                      go_wp2_with fail
                      refine wp_region_last [sv _, sv _, sv _, sv _, sv _, sv _, sv _, sv _, sv _, sv _, sv _, sv (.slice A5 q.at_ q.at_), sv _] (by kernel_rfl) rfl rfl rfl rfl rfl (by decide) ⟨
                        (by
                          intro Lq aq wq hd hj Kq hK
                          rw [if_pos (wanted_none rfl)]
                          have f7 := hj.base 7 rfl rfl
                          exact opMove hK rfl (ev f7) rfl),
                        (by
                          intro Lq aq wq hd hj Kq hK
                          rw [if_pos (wanted_none rfl)]
                          have f110 := hj.val 0 110 rfl rfl (by simp) rfl (hd ⟨0, .data⟩ (by simp) rfl)
                          exact opNil hK rfl (ev f110) rfl),
                        (by
                          intro Lq aq wq hd hj Kq hK
                          rw [if_pos (wanted_none rfl)]
                          have f111 := hj.val 1 111 rfl rfl (by simp) rfl (hd ⟨1, .data⟩ (by simp) rfl)
                          exact opFieldA hK rfl (k := 1) (ev f111) (fun W => by kernel_rfl) rfl),
                        (by
                          intro Lq aq wq hd hj Kq hK
                          rw [if_pos (wanted_none rfl)]
                          have f112 := hj.val 2 112 rfl rfl (by simp) rfl (hd ⟨2, .data⟩ (by simp) rfl)
                          first
                            | exact opLoad hK rfl (ev f112) Try.underlying59 rfl (Ext.cell ((Ext.refl None_ wm).drew.trans0 hj.ext) k1 (fun a => a)) rfl
                            | exact opLoad hK rfl (ev f112) Try.underlying59 rfl (Ext.cell ((Ext.refl None_ wm).drew.trans0 hj.ext) n1 (fun a => a)) rfl
                            | exact opLoad hK rfl (ev f112) Try.underlying59 rfl (Ext.cell ((Ext.refl None_ wm).drew.trans0 hj.ext) n2 (fun a => a)) rfl),
                        (by
                          intro Lq aq wq hd hj Kq hK
                          rw [if_pos (wanted_none rfl)]
                          have f11 := hj.base 11 rfl rfl
                          exact opFieldA hK rfl (k := 1) (ev f11) (fun W => by kernel_rfl) rfl),
                        (by
                          intro Lq aq wq hd hj Kq hK
                          rw [if_pos (wanted_none rfl)]
                          have f114 := hj.val 4 114 rfl rfl (by simp) rfl (hd ⟨4, .data⟩ (by simp) rfl)
                          first
                            | exact opLoad hK rfl (ev f114) Try.underlying3 rfl (Ext.cell ((Ext.refl None_ wm).drew.trans0 hj.ext) k1 (fun a => a)) rfl
                            | exact opLoad hK rfl (ev f114) Try.underlying3 rfl (Ext.cell ((Ext.refl None_ wm).drew.trans0 hj.ext) n1 (fun a => a)) rfl
                            | exact opLoad hK rfl (ev f114) Try.underlying3 rfl (Ext.cell ((Ext.refl None_ wm).drew.trans0 hj.ext) n2 (fun a => a)) rfl),
                        (by
                          intro Lq aq wq hd hj Kq hK
                          rw [if_pos (wanted_none rfl)]
                          have f13 := hj.base 13 rfl rfl
                          exact opMove hK rfl (ev f13) rfl),
                        (by
                          intro Lq aq wq hd hj Kq hK
                          rw [if_pos (wanted_none rfl)]
                          have f11 := hj.base 11 rfl rfl
                          exact opFieldA hK rfl (k := 2) (ev f11) (fun W => by kernel_rfl) rfl),
                        (by
                          intro Lq aq wq hd hj Kq hK
                          rw [if_pos (wanted_none rfl)]
                          have f117 := hj.val 7 117 rfl rfl (by simp) rfl (hd ⟨7, .data⟩ (by simp) rfl)
                          first
                            | exact opLoad hK rfl (ev f117) Try.underlying3 rfl (Ext.cell ((Ext.refl None_ wm).drew.trans0 hj.ext) k1 (fun a => a)) rfl
                            | exact opLoad hK rfl (ev f117) Try.underlying3 rfl (Ext.cell ((Ext.refl None_ wm).drew.trans0 hj.ext) n1 (fun a => a)) rfl
                            | exact opLoad hK rfl (ev f117) Try.underlying3 rfl (Ext.cell ((Ext.refl None_ wm).drew.trans0 hj.ext) n2 (fun a => a)) rfl),
                        (by
                          intro Lq aq wq hd hj Kq hK
                          rw [if_pos (wanted_none rfl)]
                          have f11 := hj.base 11 rfl rfl
                          exact opFieldA hK rfl (k := 2) (ev f11) (fun W => by kernel_rfl) rfl),
                        (by
                          intro Lq aq wq hd hj Kq hK
                          rw [if_pos (wanted_none rfl)]
                          have f119 := hj.val 9 119 rfl rfl (by simp) rfl (hd ⟨9, .data⟩ (by simp) rfl)
                          first
                            | exact opLoad hK rfl (ev f119) Try.underlying3 rfl (Ext.cell ((Ext.refl None_ wm).drew.trans0 hj.ext) k1 (fun a => a)) rfl
                            | exact opLoad hK rfl (ev f119) Try.underlying3 rfl (Ext.cell ((Ext.refl None_ wm).drew.trans0 hj.ext) n1 (fun a => a)) rfl
                            | exact opLoad hK rfl (ev f119) Try.underlying3 rfl (Ext.cell ((Ext.refl None_ wm).drew.trans0 hj.ext) n2 (fun a => a)) rfl),
                        (by
                          intro Lq aq wq hd hj Kq hK
                          rw [if_pos (wanted_none rfl)]
                          have f116 := hj.val 6 116 rfl rfl (by simp) rfl (hd ⟨6, .data⟩ (by simp) rfl)
                          have f118 := hj.val 8 118 rfl rfl (by simp) rfl (hd ⟨8, .data⟩ (by simp) rfl)
                          have f120 := hj.val 10 120 rfl rfl (by simp) rfl (hd ⟨10, .data⟩ (by simp) rfl)
                          exact opSliceOp hK rfl (ev f116) rfl (congrArg some (ev f118)) (congrArg some (ev f120)) Try.underlying22 HCU.out rfl),
                        (by
                          intro Lq aq wq hd hj Kq hK
                          rw [if_pos (wanted_none rfl)]
                          have f113 := hj.val 3 113 rfl rfl (by simp) rfl (hd ⟨3, .data⟩ (by simp) rfl)
                          have f115 := hj.val 5 115 rfl rfl (by simp) rfl (hd ⟨5, .data⟩ (by simp) rfl)
                          exact opIndexB hK rfl (j := q.file) (ev f113) (ev f115) Try.underlying59 infoSl (by omega) (by omega) (by simp) rfl),
                        trivial⟩ ?fin
                      case fin =>
                        intro vs4 wT hx hg
                        have v12 : vs4 12 = .pointer (some ⟨bg, q.file, none⟩) := hg 12 (by decide)
                        have v11 : vs4 11 = .slice A5 q.at_ q.at_ := hg 11 (by decide)
                        have X4 := Lib.hid ((Ext.refl None_ wm).drew.trans0 hx)
                        clear hx hg
                        simp only [List.dropLast, List.getLast?, List.getLast, Option.toList, putAll, v11, v12, Nat.reduceAdd, Nat.zero_add]
                        simp only [Act.put, List.setIfInBounds_toArray, List.set_cons_succ, List.set_cons_zero]
                        have hDT := HDM.out.ext0 X4.out
                        have hsl5 : Sl wT C2 (.slice A5 q.at_ q.at_) (f.take q.at_) := by
                          refine ⟨A5, q.at_, by rw [List.length_take, Nat.min_eq_left hat], HSL5.out _ (X3.out.trans0 X4.out), by rw [List.length_take]; omega, by omega, fun x hx => HBY1.out x (List.mem_of_mem_take hx), fun ad e => ?_⟩
                          obtain ⟨ad0, e0, hb⟩ := HB5.out ad e
                          obtain ⟨A6, c6, e6, _, _, _, _, hbl6⟩ := (hDT.tabs (X4.out.cell k1 (fun a => a)) (X4.out.cell k2 (fun a => a))).1.file (i := q.file) (by rw [hDT.ok.f64]; exact hq64)
                          have e7 := X4.out.cell kc (fun a => a)
                          rw [e6] at e7
                          obtain rfl : A6 = A1 := by simpa using (by simpa using e7 : A6 = A1 ∧ _ ∧ _).1
                          rw [hb]
                          exact hbl6 ad0 e0
                        obtain ⟨HM1, HM2⟩ := hDT.setFile (bs := bh) (X4.out.cell k1 (fun a => a)) hsl5 (by rw [List.length_take]; omega) q.file
                        have mc := X4.out.cell kc (fun a => a)
                        have mf : wT.frozen? ⟨bg, q.file, none⟩ = false := by
                          have hh := X4.out.block bg (World.block_lt_of_cell? wm ⟨bg, q.file, none⟩ kc) (fun a => a)
                          have h0 := kfb q.file
                          simp only [World.frozen?, hh] at h0 ⊢
                          exact h0
                        have HM1 := Lib.hid HM1
                        have HM2 := Lib.hid HM2
                        clear hsl5 hDT
                        go_wp2_with fail
                        go_roundw
                        case rel =>
                          refine ⟨j + 1, _, by go_num, by omega, Lib.hid ?_, hcr, Lib.hid ?_⟩
                          · rw [HST.out, HS3.out]
                            exact HM1.out
                          · exact (HXM.out.trans0 X4.out).trans HM2.out (fun k hk e => by have := e.1; omega)
                        case measure => simp [intOf]; omega
                    · have HS3 : Hid (crStep keep torn L F j q = F) := Lib.hid (by rw [HS2.out, if_pos hcut, if_neg hat])
                      have hatd : decide ((q.at_ : Int) ≤ (f.length : Int)) = false := by simp; omega
                      clear hcut
                      go_wp2_with fail
                      go_roundw
                      case rel => exact ⟨j + 1, C2, by go_num, by omega, Lib.hid (by rw [HST.out, HS3.out]; exact HDM.out), hcr, HXM⟩
                      case measure => simp [intOf]; omega
      · have hlt : k < n := by omega
        have hb1 := bit_one keep k
        cases hbit : bitK keep k with
        | true =>
          rw [hbit] at hb1
          have hLk : lastK keep (k + 1) = k := by simp [lastK, hbit]
          clear hbit
          go_wp2_with fail
          go_roundw
          case rel => exact ⟨k + 1, by rw [hLk], by go_num, by omega, hxr⟩
          case measure => simp [intOf]; omega
        | false =>
          rw [hbit] at hb1
          have hLk : lastK keep (k + 1) = lastK keep k := by simp [lastK, hbit]
          clear hbit
          go_wp2_with fail
          go_roundw
          case rel => exact ⟨k + 1, by rw [hLk], by go_num, by omega, hxr⟩
          case measure => simp [intOf]; omega
end Go.Proofs.Ytghkgfeamijefaa
