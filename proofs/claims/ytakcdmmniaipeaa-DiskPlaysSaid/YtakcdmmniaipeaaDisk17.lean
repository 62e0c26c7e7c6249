/- DiskKept, walked. Written by gen_disk17.py. -/
import Derived.Test.YtakcdmmniaipeaaDisk16
import Derived.Test.YtakcdmmniaipeaaOpenA
set_option linter.unusedVariables false
set_option linter.unusedSimpArgs false
namespace Go.Proofs.Ytakcdmmniaipeaa
open Go.RowKit B
/-- New blocks may be written. -/
theorem Lw.extNew {w0 w w2 : World} {rs : List (Option Addr × List Int)} {qs : List (Nat × DS)} {g : Nat} {D : DS} (h : Lw w0 rs qs g D w) (hx : Ext (fun k => w.heap.size ≤ k) w w2) : Lw w0 rs qs g D w2 := by
  obtain ⟨⟨M, C, h1, h2, h3, h6⟩, h4, h5⟩ := h
  refine ⟨⟨M, C, h1.ext hx (fun k hk hs => by have := h1.mlt k hk; omega) (fun k hk hs => by have := h1.clt k hk; omega), h2, fun q hq => ?_, h6⟩, fun r hr => ⟨(h4 r hr).1.ext hx (fun ad e hs => by have := (h4 r hr).2 ad e; omega), fun ad e => Nat.lt_of_lt_of_le ((h4 r hr).2 ad e) hx.size⟩, h5.trans hx (fun k hk hs => by have := h5.size; omega)⟩
  obtain ⟨M2, C2, a1, a2, a3⟩ := h3 q hq
  exact ⟨M2, C2, a1.ext hx (fun k hk hs => by have := a1.mlt k hk; omega) (fun k hk hs => by have := a1.clt k hk; omega), a2, a3⟩
/-- A row of bytes of the call's own, cell by cell. -/
def ByR (w : World) (b n : Nat) : Prop := ∃ cur : Array Value, Blk w b cur 5 ∧ ∀ i, i < n → ∃ x : Int, cur[i]? = some (.int .u8 x) ∧ 0 ≤ x ∧ x < 256
theorem ByR.own {w : World} {ok : Nat → Prop} {A : Option Addr} {n c : Nat} {l : List Int} (h : OwnB w ok (.slice A n c) l) (hb : Byt l) (hp : 0 < n) (hn : n = l.length) : ∃ b, A = some ⟨b, 0, none⟩ ∧ ByR w b n ∧ ok b ∧ b < w.heap.size := by
  have hlt := Own.lt h
  have hok := h.blk
  have hc := fun (g : Nat) (hg : (Value.slice A n c).ownBlock = some g) => World.ownsRow.cells h.own (g := g) hg
  rcases h.own.2 with ⟨e, _⟩ | ⟨g, cap, cur, e, hbd, hg, hnc, hm, hs, ht⟩
  · simp only [Value.slice.injEq] at e
    omega
  · simp only [Value.slice.injEq] at e
    obtain ⟨rfl, _, rfl⟩ := e
    refine ⟨g, rfl, ⟨cur, hg, fun i hi => ?_⟩, hok g rfl, hlt g rfl⟩
    have hil : i < l.length := by omega
    refine ⟨l[i], ?_, hb _ (List.getElem_mem _)⟩
    have h1 := hc g rfl i (.int .u8 l[i]) (by simp [B8, hil])
    rw [add_plain, Blk.cell hg] at h1
    exact h1
theorem ByR.set {w : World} {b n : Nat} (h : ByR w b n) (i : Nat) (x : Int) (h0 : 0 ≤ x) (h1 : x < 256) : ByR (w.setCell ⟨b, i, none⟩ (.int .u8 x)) b n := by
  obtain ⟨cur, hb, hc⟩ := h
  refine ⟨_, hb.set i _, fun j hj => ?_⟩
  rw [Array.getElem?_setIfInBounds]
  obtain ⟨y, hy, hy0⟩ := hc j hj
  by_cases hij : i = j
  · subst hij
    have := (Array.getElem?_eq_some_iff.1 hy).1
    rw [if_pos rfl, if_pos this]
    exact ⟨x, rfl, h0, h1⟩
  · rw [if_neg hij]
    exact ⟨y, hy, hy0⟩
theorem write_wait (D : DS) (f z : Int) (p : List Int) : (writeD D f z p).2.wait.length ≤ D.wait.length + 1 := by
  have hw := count_wait D
  unfold writeD
  split
  · split
    · split
      · rw [hw]; omega
      · simp [hw]
    · rw [hw]; omega
  · rw [hw]; omega
theorem within63 (n : Int) : 0 ≤ within n 0 63 ∧ within n 0 63 < 64 := by unfold within; omega
theorem read_byt {w : World} {g : Nat} {D : DS} (h : IsD w g D) (f : Int) : Byt (readF D f) := by
  obtain ⟨M, C, h⟩ := h
  unfold readF
  split
  · exact fun x hx => by simp at hx
  · split
    · rename_i hf
      obtain ⟨h0, h1⟩ := inF_true hf
      obtain ⟨n, rfl⟩ : ∃ n : Nat, f = n := ⟨f.toNat, by omega⟩
      obtain ⟨bf, bs, A, c, _, _, hfl, _⟩ := h.cells
      obtain ⟨_, _, _, _, _, _, hby, _⟩ := hfl.file (i := n) (by rw [h.ok.f64]; omega)
      exact hby
    · exact fun x hx => by simp at hx
theorem read_lenD {w : World} {g : Nat} {D : DS} (h : IsD w g D) (f : Int) : (readF D f).length ≤ 140737488355328 := by
  obtain ⟨M, C, h⟩ := h
  unfold readF
  split
  · simp
  · split
    · rename_i hf
      obtain ⟨h0, h1⟩ := inF_true hf
      obtain ⟨n, rfl⟩ : ∃ n : Nat, f = n := ⟨f.toNat, by omega⟩
      have := h.ok.fl _ (fileAt_mem (fs := D.files) (i := n) (by rw [h.ok.f64]; omega))
      omega
    · simp
set_option maxRecDepth 100000 in
set_option maxHeartbeats 16000000 in
theorem DiskKept_any (A0 : Option Addr) (cap : Nat) (l : List (Ask × Option Addr × Nat)) (fi : Int) (hfi : I64 fi) (A3 : Option Addr) (c3 : Nat) (p : List Int) (w : World) (hl : Aks w A0 l) (hlen : l.length ≤ 140737488351232) (hp : Row w A3 (B8 p)) (hpb : Byt p) (hpl : p.length ≤ 140737488351232) : Calls Try.prog 8 #[.slice A0 l.length cap, .int .i64 fi, .slice A3 p.length c3] w fun e w' => e = .returned (.bool true) ∧ Ext None_ w w' := by
  have HSO := Lib.hid (some_any A0 cap l w hl hlen)
  obtain ⟨f, hf⟩ : ∃ f, f = within fi 0 63 := ⟨_, rfl⟩
  have hf0 : 0 ≤ f ∧ f < 64 := hf ▸ within63 fi
  have HWI : Hid (∀ W, Calls Try.prog 16 #[.int .i64 fi, .int .i64 0, .int .i64 63] W fun e w' => e = .returned (.int .i64 f) ∧ W = w') := Lib.hid (fun W => hf ▸ within_any fi 0 63 W hfi (by omega) (by omega) (by omega))
  have HP := Lib.hid (fun W (hx : Ext None_ w W) => hp.ext0 hx)
  have HPB := Lib.hid hpb
  have HPW : Hid (∀ ad, A3 = some ad → 0 < p.length → ad.block < w.heap.size) := Lib.hid (fun ad e h => hp.lt (by rw [B8_length]; exact h) ad e)
  have HR := Lib.hid (fun W => DiskRuns_any W)
  clear hf hl hp hpb hfi
  go_enter Try.func8, Try.ntmps8
  go_wp2_with (first
    | (go_at_call 30; refine HSO.out.mono ?_; rintro e wA ⟨g, D, rfl, hsy, h1⟩; have HA := Lib.hid h1; have HSY := Lib.hid hsy; obtain ⟨was, hwas⟩ : ∃ was, was = readF D f := ⟨_, rfl⟩; have HWAS := Lib.hid hwas; have HBY := Lib.hid (hwas ▸ read_byt (Lw.is h1) f); have HLN := Lib.hid (hwas ▸ read_lenD (Lw.is h1) f); obtain ⟨Dc, hdc⟩ : ∃ Dc, Dc = crashD D (-1) (-1) := ⟨_, rfl⟩; have HDC := Lib.hid hdc; have HEQ : Hid (readF Dc f = was) := Lib.hid (by rw [hdc, hwas, read_calm hsy.calm.off hf0]; exact (read_calm rfl hf0).trans (by rw [crash_nil hsy.wait, hsy.safe])); have HCW : Hid (Dc.wait.length = 0) := Lib.hid (by rw [hdc]; rfl); clear hdc; clear h1 hsy HSO hwas)
    | (go_at_call 16; refine (HWI.out _).mono ?_; rintro e w1 ⟨rfl, rfl⟩; clear HWI)
    | (go_at_call 23; refine (is_readE (Lw.is HA.out) HWAS.out.symm).mono ?_; rintro e wB ⟨A1, c1, rfl, hr1, ho1, hb1, hc1, hx1⟩; have HB := Lib.hid (Lw.addRow HA.out hx1 hr1 hb1); clear hr1 ho1 hb1 hx1 HA)
    | (go_at_call 22; refine (lw_crash HB.out (-1) (-1) (by unfold I64; omega) (by rw [HSY.out.wait]; simp)).mono ?_; rintro e wC ⟨g', rfl, _, h2⟩; rw [← HDC.out] at h2; have HC := Lib.hid h2; have HIS := Lib.hid (Lw.isQ h2 (List.mem_cons_self ..)); clear h2 HB)
    | (go_at_call 23; refine (is_readE (Lw.is HC.out) HEQ.out).mono ?_; rintro e wD ⟨A2, c2, rfl, hr2, ho2, hb2, hc2, hx2⟩; have HO2 := Lib.hid ho2; have HX2 := Lib.hid hx2; clear hr2 ho2 hx2))
  have HB2 : Hid (0 < was.length → ∃ b, A2 = some ⟨b, 0, none⟩ ∧ ByR wD b was.length ∧ wC.heap.size ≤ b ∧ b < wD.heap.size) := Lib.hid (fun h => by
    obtain ⟨b, e, h1, h2, h3⟩ := ByR.own HO2.out HBY.out h rfl
    exact ⟨b, e, h1, h2, h3⟩)
  clear HO2
  go_loopw [11] (fun v11 wr => ∃ i : Nat, v11 = .int .i64 i ∧ i ≤ was.length ∧ Hid (Ext (fun k => wC.heap.size ≤ k) wC wr) ∧ Hid (∀ b, A2 = some ⟨b, 0, none⟩ → 0 < was.length → ByR wr b was.length)) (fun v11 _ => was.length - (intOf v11).toNat)
  case atStart => exact ⟨0, rfl, by omega, Lib.hid (ofQ HX2.out), Lib.hid (fun b e h => by
    obtain ⟨b', e', h1, _⟩ := HB2.out h
    rw [e] at e'
    cases e'
    exact h1)⟩
  case round =>
    obtain ⟨i, rfl, hi, hxr, hbr⟩ := hrel
    have hwl := HLN.out
    by_cases hlt : i < was.length
    · obtain ⟨b, rfl, _, hbs, _⟩ := HB2.out (by omega)
      obtain ⟨cur, hblk, hcs⟩ := hbr.out b rfl (by omega)
      obtain ⟨x, hx, hx0, hx1⟩ := hcs i hlt
      have hcell := hblk.cell i
      rw [hx] at hcell
      have hfro := hblk.frozen i
      have HBL := Lib.hid hblk
      clear hx hcs hblk
      go_wp2_with fail
      go_roundw
      case rel => exact ⟨i + 1, by go_num, by omega, Lib.hid (hxr.out.setCell (.inl hbs) _), Lib.hid (fun b' e hl => by cases e; exact ByR.set (hbr.out b rfl hl) i _ (by omega) (by omega))⟩
      case measure => simp [intOf]; omega
    · have HCR := Lib.hid (HC.out.extNew hxr.out)
      obtain ⟨⟨y1, D1⟩, hw1⟩ : ∃ r, r = writeD Dc f 0 p := ⟨_, rfl⟩
      have HD1 : Hid (D1.wait.length ≤ 1099511627776) := Lib.hid (by have h1 := write_wait Dc f 0 p; rw [← hw1] at h1; have h2 := HCW.out; simp only at h1; omega)
      obtain ⟨⟨y2, D2⟩, hw2⟩ : ∃ r, r = cutD D1 f 0 := ⟨_, rfl⟩
      have HE1 := Lib.hid hw1.symm
      have HE2 := Lib.hid hw2.symm
      clear hw1 hw2
      go_wp2_with (first
        | (go_at_call 23; refine (is_readE (Lw.is HCR.out) HEQ.out).mono ?_; rintro e wE ⟨A4, c4, rfl, hr4, _, _, _, hx4⟩; have HCE := Lib.hid (HCR.out.ext0 hx4); have HR4 := Lib.hid hr4; clear hr4 hx4 HCR)
        | (go_at_call 24; refine (same_any A4 c4 was A1 c1 was _ HR4.out (Lw.row HCE.out (List.mem_cons_self ..)) hwl hwl).mono ?_; rintro e wF ⟨h7, hx7⟩; rw [show decide (was = was) = true from by simp] at h7; subst h7; have HCF := Lib.hid (HCE.out.ext0 hx7); clear hx7 HCE HR4)
        | (go_at_call 15; refine (lw_writeE HCF.out HE1.out A3 c3 (HP.out _ (Lw.x HCF.out)) HPB.out (fun ad e hl => .inr (HPW.out ad e hl)) (by rw [HCW.out]; exact Nat.zero_le _) (by omega)).mono ?_; rintro e wG ⟨rfl, h3, _⟩; have HCG := Lib.hid h3; clear h3 HCF)
        | (go_at_call 26; refine (lw_cutE HCG.out HE2.out HD1.out).mono ?_; rintro e wH ⟨rfl, h3, _⟩; have HCH := Lib.hid h3; clear h3 HCG)
        | (go_at_call 23; refine (is_readE (Lw.isQ HCH.out (List.mem_cons_self ..)) HWAS.out.symm).mono ?_; rintro e wI ⟨A5, c5, rfl, hr5, _, _, _, hx5⟩; have HCI := Lib.hid (HCH.out.ext0 hx5); have HR5 := Lib.hid hr5; clear hr5 hx5 HCH)
        | (go_at_call 24; refine (same_any A5 c5 was A1 c1 was _ HR5.out (Lw.row HCI.out (List.mem_cons_self ..)) hwl hwl).mono ?_; rintro e wJ ⟨h7, hx7⟩; rw [show decide (was = was) = true from by simp] at h7; subst h7; have HCJ := Lib.hid (HCI.out.ext0 hx7); clear hx7)
        | (go_at_call 5; refine (HR.out _).mono ?_; rintro e wZ ⟨rfl, hz⟩; have HZ := Lib.hid hz; clear hz))
      go_ret
      exact ⟨rfl, (Lw.x HCJ.out).trans0 HZ.out⟩
theorem DiskKept_row {w : World} (x : AkX) (hx : x.ok w) (fi : Int) (hfi : (Lit.int .i64 fi).wf = true) {A3 : Option Addr} {c3 : Nat} (p : List Int) (hp : Row w A3 (B8 p)) (hc : p.length ≤ c3) (hm : c3 ≤ 140737488351232) (hpb : Byt p) : Calls Try.prog 8 #[x.v, .int .i64 fi, .slice A3 p.length c3] w fun e w' => e = .returned (.bool true) ∧ Ext None_ w w' :=
  DiskKept_any x.2.1 x.2.2 x.1 fi (i64_of hfi) A3 c3 p w hx.1 hx.2 hp hpb (by omega)
end Go.Proofs.Ytakcdmmniaipeaa
