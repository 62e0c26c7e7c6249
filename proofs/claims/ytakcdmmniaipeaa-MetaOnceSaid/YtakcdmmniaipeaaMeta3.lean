/- Package meta, walked: Set. Written by gen_meta3.py. -/
import Derived.Test.YtakcdmmniaipeaaMeta2
import Derived.Test.YtakcdmmniaipeaaPure3
set_option linter.unusedVariables false
set_option linter.unusedSimpArgs false
namespace Go.Proofs.Ytakcdmmniaipeaa
open Go.RowKit B
def recB (age t v : Int) : List Int := putF [] (enc age ++ enc t ++ enc v)
def clearD (D : DS) (f : Int) : Int × DS := if 0 < sizeF D f then (if (cutD D f 0).1 = 0 then syncD (cutD D f 0).2 else cutD D f 0) else (0, D)
def setM (D : DS) (m : Mt) (t v : Int) : Int × DS × Mt :=
  if mayB m.r.term m.r.vote t v = true then
    (if (clearD D (1 - m.file)).1 = 0 then
      (if (writeD (clearD D (1 - m.file)).2 (1 - m.file) 0 (recB (m.r.age + 1) t v)).1 = 0 then
        (if (syncD (writeD (clearD D (1 - m.file)).2 (1 - m.file) 0 (recB (m.r.age + 1) t v)).2).1 = 0 then (0, (syncD (writeD (clearD D (1 - m.file)).2 (1 - m.file) 0 (recB (m.r.age + 1) t v)).2).2, ⟨1 - m.file, ⟨m.r.age + 1, t, v⟩⟩)
          else ((syncD (writeD (clearD D (1 - m.file)).2 (1 - m.file) 0 (recB (m.r.age + 1) t v)).2).1, (syncD (writeD (clearD D (1 - m.file)).2 (1 - m.file) 0 (recB (m.r.age + 1) t v)).2).2, m))
        else ((writeD (clearD D (1 - m.file)).2 (1 - m.file) 0 (recB (m.r.age + 1) t v)).1, (writeD (clearD D (1 - m.file)).2 (1 - m.file) 0 (recB (m.r.age + 1) t v)).2, m))
      else ((clearD D (1 - m.file)).1, (clearD D (1 - m.file)).2, m))
  else (1, D, m)
abbrev GM (gm : Nat) : List (Option Addr × List Int) := [(some ⟨gm, 0, none⟩, [])]
def SetP (w0 : World) (gm g : Nat) (s : Int × DS × Mt) (e : Ending) (w' : World) : Prop := e = .returned (.int .i64 s.1) ∧ Lw w0 (GM gm) [] g s.2.1 w' ∧ MetaB w' gm g s.2.2.file s.2.2.r
theorem meta_keep {w0 w w' : World} {gm g : Nat} {f : Int} {r : Rec} (h : MetaB w gm g f r) (hx : Ext (Wr w0 (GM gm)) w w') : MetaB w' gm g f r := Blk.ext h hx (fun h => h.2 _ (List.mem_cons_self ..) _ rfl rfl)
theorem enc3_len (a t v : Int) : (enc a ++ enc t ++ enc v).length ≤ 30 := by
  have := (enc_length a).2
  have := (enc_length t).2
  have := (enc_length v).2
  simp only [List.length_append]
  omega
theorem byt_app {l m : List Int} (h1 : Byt l) (h2 : Byt m) : Byt (l ++ m) := fun x hx => (List.mem_append.1 hx).elim (h1 x) (h2 x)
theorem byt3 {a t v : Int} (ha : I64 a) (ht : I64 t) (hv : I64 v) : Byt (enc a ++ enc t ++ enc v) := byt_app (byt_app (byt_enc a ha) (byt_enc t ht)) (byt_enc v hv)
theorem recB_byt {a t v : Int} (ha : I64 a) (ht : I64 t) (hv : I64 v) : Byt (recB a t v) := by
  unfold recB putF
  have := enc3_len a t v
  rw [if_neg (by omega), List.nil_append]
  exact byt_app (byt_app (le4_byt _) (le4_byt _)) (byt3 ha ht hv)
theorem sync_wait (D : DS) : (syncD D).2.wait.length ≤ D.wait.length := by
  have hw := count_wait D
  unfold syncD
  split
  · simp
  · rw [hw]; omega
theorem recB_len (a t v : Int) : (recB a t v).length ≤ 38 := by
  unfold recB putF
  have := enc3_len a t v
  rw [if_neg (by omega), List.nil_append, frameS_len]
  omega
set_option maxRecDepth 100000 in
set_option maxHeartbeats 8000000 in
theorem set_may (w0 : World) (gm g : Nat) (D : DS) (file : Int) (r : Rec) (t v : Int) (w : World) (h : Lw w0 (GM gm) [] g D w) (hm : MetaB w gm g file r) (hgw : w0.heap.size ≤ gm) (hf : 0 ≤ file ∧ file ≤ 1) (ha : 0 ≤ r.age ∧ r.age < 1125899906842624) (ht : I64 t) (hv : I64 v) (hwl : D.wait.length ≤ 1000000) (may : mayB r.term r.vote t v = false) : Calls Try.prog 20 #[.pointer (some ⟨gm, 0, none⟩), .int .i64 t, .int .i64 v] w (SetP w0 gm g (setM D ⟨file, r⟩ t v)) := by
  have HS : Hid (setM D ⟨file, r⟩ t v = (1, D, ⟨file, r⟩)) := Lib.hid (by unfold setM; rw [if_neg (by rw [may]; decide)])
  have c3 := Blk.cell hm 3
  have c4 := Blk.cell hm 4
  have HM := Lib.hid hm
  have HL := Lib.hid h
  have HMAY := Lib.hid may
  have HTI := Lib.hid ht
  have HVI := Lib.hid hv
  have HGW := Lib.hid hgw
  have HA0 := Lib.hid (show I64 (r.age + 1) by unfold I64; omega)
  obtain ⟨L1, hL1⟩ : ∃ L1, L1 = enc (r.age + 1) := ⟨_, rfl⟩
  obtain ⟨L2, hL2⟩ : ∃ L2, L2 = L1 ++ enc t := ⟨_, rfl⟩
  obtain ⟨L3, hL3⟩ : ∃ L3, L3 = L2 ++ enc v := ⟨_, rfl⟩
  obtain ⟨RB, hRB⟩ : ∃ RB, RB = recB (r.age + 1) t v := ⟨_, rfl⟩
  have hl1 : L1.length ≤ 10 := hL1 ▸ (enc_length _).2
  have hl2 : L2.length ≤ 20 := by rw [hL2, List.length_append]; have := (enc_length t).2; omega
  have hl3 : L3.length ≤ 30 := by rw [hL3, List.length_append]; have := (enc_length v).2; omega
  have hrb : RB.length ≤ 38 := hRB ▸ recB_len _ _ _
  have HE1 := Lib.hid hL1
  have HE2 := Lib.hid hL2
  have HE3 := Lib.hid hL3
  have HRB : Hid (RB = putF [] L3) := Lib.hid (by rw [hRB, hL3, hL2, hL1]; rfl)
  have HBP : Hid (Byt L3) := Lib.hid (by rw [hL3, hL2, hL1]; exact byt3 (show I64 (r.age + 1) by unfold I64; omega) ht hv)
  have HBR : Hid (Byt RB) := Lib.hid (hRB ▸ recB_byt (show I64 (r.age + 1) by unfold I64; omega) ht hv)
  clear hL1 hL2 hL3 hRB
  clear h hm may ht hv
  go_enter Try.func20, Try.ntmps20
  go_wp2_with fail
  refine wp_region_mem [sv _, sv _, sv _, sv _, sv _, sv _, sv _, sv _, sv _, sv _, sv (.bool false), sv (.bool true)] (by kernel_rfl) rfl rfl rfl rfl ⟨
    (by
      intro Lq aq wq hd hj Kq hK
      rw [if_pos (wanted_none rfl)]
      have f0 := hj.base 0 rfl rfl
      exact opMove hK rfl (ev f0) rfl),
    (by
      intro Lq aq wq hd hj Kq hK
      rw [if_pos (wanted_none rfl)]
      have f13 := hj.val 0 13 rfl rfl (by simp) rfl (hd ⟨0, .data⟩ (by simp) rfl)
      exact opNil hK rfl (ev f13) rfl),
    (by
      intro Lq aq wq hd hj Kq hK
      rw [if_pos (wanted_none rfl)]
      have f14 := hj.val 1 14 rfl rfl (by simp) rfl (hd ⟨1, .data⟩ (by simp) rfl)
      exact opFieldA hK rfl (k := 3) (ev f14) (fun W => by kernel_rfl) rfl),
    (by
      intro Lq aq wq hd hj Kq hK
      rw [if_pos (wanted_none rfl)]
      have f15 := hj.val 2 15 rfl rfl (by simp) rfl (hd ⟨2, .data⟩ (by simp) rfl)
      first
        | exact opLoad hK rfl (ev f15) Try.underlying3 rfl (Ext.cell ((Ext.refl None_ w).drew.trans0 hj.ext) c3 (fun a => a)) rfl
        | exact opLoad hK rfl (ev f15) Try.underlying3 rfl (Ext.cell ((Ext.refl None_ w).drew.trans0 hj.ext) c4 (fun a => a)) rfl),
    (by
      intro Lq aq wq hd hj Kq hK
      rw [if_pos (wanted_none rfl)]
      have f0 := hj.base 0 rfl rfl
      exact opMove hK rfl (ev f0) rfl),
    (by
      intro Lq aq wq hd hj Kq hK
      rw [if_pos (wanted_none rfl)]
      have f17 := hj.val 4 17 rfl rfl (by simp) rfl (hd ⟨4, .data⟩ (by simp) rfl)
      exact opNil hK rfl (ev f17) rfl),
    (by
      intro Lq aq wq hd hj Kq hK
      rw [if_pos (wanted_none rfl)]
      have f18 := hj.val 5 18 rfl rfl (by simp) rfl (hd ⟨5, .data⟩ (by simp) rfl)
      exact opFieldA hK rfl (k := 4) (ev f18) (fun W => by kernel_rfl) rfl),
    (by
      intro Lq aq wq hd hj Kq hK
      rw [if_pos (wanted_none rfl)]
      have f19 := hj.val 6 19 rfl rfl (by simp) rfl (hd ⟨6, .data⟩ (by simp) rfl)
      first
        | exact opLoad hK rfl (ev f19) Try.underlying3 rfl (Ext.cell ((Ext.refl None_ w).drew.trans0 hj.ext) c3 (fun a => a)) rfl
        | exact opLoad hK rfl (ev f19) Try.underlying3 rfl (Ext.cell ((Ext.refl None_ w).drew.trans0 hj.ext) c4 (fun a => a)) rfl),
    (by
      intro Lq aq wq hd hj Kq hK
      rw [if_pos (wanted_none rfl)]
      have f1 := hj.base 1 rfl rfl
      exact opMove hK rfl (ev f1) rfl),
    (by
      intro Lq aq wq hd hj Kq hK
      rw [if_pos (wanted_none rfl)]
      have f2 := hj.base 2 rfl rfl
      exact opMove hK rfl (ev f2) rfl),
    (by
      intro Lq aq wq hd hj Kq hK
      rw [if_pos (wanted_none rfl)]
      have f16 := hj.val 3 16 rfl rfl (by simp) rfl (hd ⟨3, .data⟩ (by simp) rfl)
      have f20 := hj.val 7 20 rfl rfl (by simp) rfl (hd ⟨7, .data⟩ (by simp) rfl)
      have f21 := hj.val 8 21 rfl rfl (by simp) rfl (hd ⟨8, .data⟩ (by simp) rfl)
      have f22 := hj.val 9 22 rfl rfl (by simp) rfl (hd ⟨9, .data⟩ (by simp) rfl)
      exact opCall hK Try.func53 (by kernel_rfl) rfl (args := #[.int .i64 r.term, .int .i64 r.vote, .int .i64 t, .int .i64 v]) (by simp [ev f16, ev f20, ev f21, ev f22]) ((may_any r.term r.vote t v _).mono fun e w' ⟨h1, h2⟩ => ⟨_, h1, congrArg Value.bool HMAY.out, h2⟩)),
    (by
      intro Lq aq wq hd hj Kq hK
      rw [if_pos (wanted_none rfl)]
      have f23 := hj.val 10 23 rfl rfl (by simp) rfl (hd ⟨10, .data⟩ (by simp) rfl)
      exact opNot hK rfl (ev f23) rfl),
    trivial⟩ ?fin
  case fin =>
    intro vs w9 hx hg
    have v11 : vs 11 = _ := hg 11 (by decide)
    have X := Lib.hid ((Ext.refl None_ w).drew.trans0 hx)
    clear hx hg
    simp only [putAll, v11, Nat.reduceAdd, Nat.zero_add]
    simp only [Act.put, List.setIfInBounds_toArray, List.set_cons_succ, List.set_cons_zero]
    have hm9 : MetaB w9 gm g file r := Blk.ext HM.out X.out (fun a => a)
    have HL9 := Lib.hid (HL.out.ext0 X.out)
    have HM9 := Lib.hid hm9
    have q0 := Blk.cell hm9 0
    have q1 := Blk.cell hm9 1
    have q2 := Blk.cell hm9 2
    clear hm9 HL HM c3 c4
    go_wp2_with fail
    go_ret
    unfold SetP
    rw [HS.out]
    exact ⟨rfl, HL9.out, HM9.out⟩
set_option maxRecDepth 100000 in
set_option maxHeartbeats 8000000 in
theorem set_cut (w0 : World) (gm g : Nat) (D : DS) (file : Int) (r : Rec) (t v : Int) (w : World) (h : Lw w0 (GM gm) [] g D w) (hm : MetaB w gm g file r) (hgw : w0.heap.size ≤ gm) (hf : 0 ≤ file ∧ file ≤ 1) (ha : 0 ≤ r.age ∧ r.age < 1125899906842624) (ht : I64 t) (hv : I64 v) (hwl : D.wait.length ≤ 1000000) (may : mayB r.term r.vote t v = true) (hs : 0 < sizeF D (1 - file)) (y1 : Int) (D1 : DS) (h1 : cutD D (1 - file) 0 = (y1, D1)) (e1 : y1 ≠ 0) : Calls Try.prog 20 #[.pointer (some ⟨gm, 0, none⟩), .int .i64 t, .int .i64 v] w (SetP w0 gm g (setM D ⟨file, r⟩ t v)) := by
  have hcl : clearD D (1 - file) = (y1, D1) := by unfold clearD; rw [if_pos hs, h1]; exact if_neg e1
  have HS : Hid (setM D ⟨file, r⟩ t v = (y1, D1, ⟨file, r⟩)) := Lib.hid (by unfold setM; rw [if_pos may]; simp only [hcl]; rw [if_neg e1])
  obtain ⟨sz, hsz⟩ : ∃ sz, sz = sizeF D (1 - file) := ⟨_, rfl⟩
  have hszl : sz ≤ 1048576 := hsz ▸ size_len (Lw.is h) (1 - file)
  rw [← hsz] at hs
  have HSZ := Lib.hid hsz
  have hw1 := cut_wait D (1 - file) 0
  rw [h1] at hw1
  simp only at hw1
  have HC1 := Lib.hid h1
  have b1 : (y1 != 0) = true := by simp [e1]
  clear hsz hcl h1 e1
  have c3 := Blk.cell hm 3
  have c4 := Blk.cell hm 4
  have HM := Lib.hid hm
  have HL := Lib.hid h
  have HMAY := Lib.hid may
  have HTI := Lib.hid ht
  have HVI := Lib.hid hv
  have HGW := Lib.hid hgw
  have HA0 := Lib.hid (show I64 (r.age + 1) by unfold I64; omega)
  obtain ⟨L1, hL1⟩ : ∃ L1, L1 = enc (r.age + 1) := ⟨_, rfl⟩
  obtain ⟨L2, hL2⟩ : ∃ L2, L2 = L1 ++ enc t := ⟨_, rfl⟩
  obtain ⟨L3, hL3⟩ : ∃ L3, L3 = L2 ++ enc v := ⟨_, rfl⟩
  obtain ⟨RB, hRB⟩ : ∃ RB, RB = recB (r.age + 1) t v := ⟨_, rfl⟩
  have hl1 : L1.length ≤ 10 := hL1 ▸ (enc_length _).2
  have hl2 : L2.length ≤ 20 := by rw [hL2, List.length_append]; have := (enc_length t).2; omega
  have hl3 : L3.length ≤ 30 := by rw [hL3, List.length_append]; have := (enc_length v).2; omega
  have hrb : RB.length ≤ 38 := hRB ▸ recB_len _ _ _
  have HE1 := Lib.hid hL1
  have HE2 := Lib.hid hL2
  have HE3 := Lib.hid hL3
  have HRB : Hid (RB = putF [] L3) := Lib.hid (by rw [hRB, hL3, hL2, hL1]; rfl)
  have HBP : Hid (Byt L3) := Lib.hid (by rw [hL3, hL2, hL1]; exact byt3 (show I64 (r.age + 1) by unfold I64; omega) ht hv)
  have HBR : Hid (Byt RB) := Lib.hid (hRB ▸ recB_byt (show I64 (r.age + 1) by unfold I64; omega) ht hv)
  clear hL1 hL2 hL3 hRB
  clear h hm may ht hv
  go_enter Try.func20, Try.ntmps20
  go_wp2_with fail
  refine wp_region_mem [sv _, sv _, sv _, sv _, sv _, sv _, sv _, sv _, sv _, sv _, sv (.bool true), sv (.bool false)] (by kernel_rfl) rfl rfl rfl rfl ⟨
    (by
      intro Lq aq wq hd hj Kq hK
      rw [if_pos (wanted_none rfl)]
      have f0 := hj.base 0 rfl rfl
      exact opMove hK rfl (ev f0) rfl),
    (by
      intro Lq aq wq hd hj Kq hK
      rw [if_pos (wanted_none rfl)]
      have f13 := hj.val 0 13 rfl rfl (by simp) rfl (hd ⟨0, .data⟩ (by simp) rfl)
      exact opNil hK rfl (ev f13) rfl),
    (by
      intro Lq aq wq hd hj Kq hK
      rw [if_pos (wanted_none rfl)]
      have f14 := hj.val 1 14 rfl rfl (by simp) rfl (hd ⟨1, .data⟩ (by simp) rfl)
      exact opFieldA hK rfl (k := 3) (ev f14) (fun W => by kernel_rfl) rfl),
    (by
      intro Lq aq wq hd hj Kq hK
      rw [if_pos (wanted_none rfl)]
      have f15 := hj.val 2 15 rfl rfl (by simp) rfl (hd ⟨2, .data⟩ (by simp) rfl)
      first
        | exact opLoad hK rfl (ev f15) Try.underlying3 rfl (Ext.cell ((Ext.refl None_ w).drew.trans0 hj.ext) c3 (fun a => a)) rfl
        | exact opLoad hK rfl (ev f15) Try.underlying3 rfl (Ext.cell ((Ext.refl None_ w).drew.trans0 hj.ext) c4 (fun a => a)) rfl),
    (by
      intro Lq aq wq hd hj Kq hK
      rw [if_pos (wanted_none rfl)]
      have f0 := hj.base 0 rfl rfl
      exact opMove hK rfl (ev f0) rfl),
    (by
      intro Lq aq wq hd hj Kq hK
      rw [if_pos (wanted_none rfl)]
      have f17 := hj.val 4 17 rfl rfl (by simp) rfl (hd ⟨4, .data⟩ (by simp) rfl)
      exact opNil hK rfl (ev f17) rfl),
    (by
      intro Lq aq wq hd hj Kq hK
      rw [if_pos (wanted_none rfl)]
      have f18 := hj.val 5 18 rfl rfl (by simp) rfl (hd ⟨5, .data⟩ (by simp) rfl)
      exact opFieldA hK rfl (k := 4) (ev f18) (fun W => by kernel_rfl) rfl),
    (by
      intro Lq aq wq hd hj Kq hK
      rw [if_pos (wanted_none rfl)]
      have f19 := hj.val 6 19 rfl rfl (by simp) rfl (hd ⟨6, .data⟩ (by simp) rfl)
      first
        | exact opLoad hK rfl (ev f19) Try.underlying3 rfl (Ext.cell ((Ext.refl None_ w).drew.trans0 hj.ext) c3 (fun a => a)) rfl
        | exact opLoad hK rfl (ev f19) Try.underlying3 rfl (Ext.cell ((Ext.refl None_ w).drew.trans0 hj.ext) c4 (fun a => a)) rfl),
    (by
      intro Lq aq wq hd hj Kq hK
      rw [if_pos (wanted_none rfl)]
      have f1 := hj.base 1 rfl rfl
      exact opMove hK rfl (ev f1) rfl),
    (by
      intro Lq aq wq hd hj Kq hK
      rw [if_pos (wanted_none rfl)]
      have f2 := hj.base 2 rfl rfl
      exact opMove hK rfl (ev f2) rfl),
    (by
      intro Lq aq wq hd hj Kq hK
      rw [if_pos (wanted_none rfl)]
      have f16 := hj.val 3 16 rfl rfl (by simp) rfl (hd ⟨3, .data⟩ (by simp) rfl)
      have f20 := hj.val 7 20 rfl rfl (by simp) rfl (hd ⟨7, .data⟩ (by simp) rfl)
      have f21 := hj.val 8 21 rfl rfl (by simp) rfl (hd ⟨8, .data⟩ (by simp) rfl)
      have f22 := hj.val 9 22 rfl rfl (by simp) rfl (hd ⟨9, .data⟩ (by simp) rfl)
      exact opCall hK Try.func53 (by kernel_rfl) rfl (args := #[.int .i64 r.term, .int .i64 r.vote, .int .i64 t, .int .i64 v]) (by simp [ev f16, ev f20, ev f21, ev f22]) ((may_any r.term r.vote t v _).mono fun e w' ⟨h1, h2⟩ => ⟨_, h1, congrArg Value.bool HMAY.out, h2⟩)),
    (by
      intro Lq aq wq hd hj Kq hK
      rw [if_pos (wanted_none rfl)]
      have f23 := hj.val 10 23 rfl rfl (by simp) rfl (hd ⟨10, .data⟩ (by simp) rfl)
      exact opNot hK rfl (ev f23) rfl),
    trivial⟩ ?fin
  case fin =>
    intro vs w9 hx hg
    have v11 : vs 11 = _ := hg 11 (by decide)
    have X := Lib.hid ((Ext.refl None_ w).drew.trans0 hx)
    clear hx hg
    simp only [putAll, v11, Nat.reduceAdd, Nat.zero_add]
    simp only [Act.put, List.setIfInBounds_toArray, List.set_cons_succ, List.set_cons_zero]
    have hm9 : MetaB w9 gm g file r := Blk.ext HM.out X.out (fun a => a)
    have HL9 := Lib.hid (HL.out.ext0 X.out)
    have HM9 := Lib.hid hm9
    have q0 := Blk.cell hm9 0
    have q1 := Blk.cell hm9 1
    have q2 := Blk.cell hm9 2
    clear hm9 HL HM c3 c4
    go_wp2_with (first
      | (go_at_call 52; refine (is_size (Lw.is HL9.out) (1 - file)).mono ?_; rw [← HSZ.out]; rintro e wA ⟨rfl, hx⟩; have HLA := Lib.hid (HL9.out.ext0 hx); have hmA := meta_keep (w0 := w0) HM9.out (ofQ hx); have HMA := Lib.hid hmA; have qA0 := Blk.cell hmA 0; have qA1 := Blk.cell hmA 1; have qA2 := Blk.cell hmA 2; have qAf := hmA.frozen; clear hmA; clear hx HL9 q0 q1 q2 HM9)
      | (go_at_call 26; refine (lw_cutE HLA.out HC1.out (by omega)).mono ?_; rintro e wB ⟨rfl, h3, hx⟩; have HLB := Lib.hid h3; have hmB := meta_keep (w0 := w0) HMA.out hx; have HMB := Lib.hid hmB; have qB0 := Blk.cell hmB 0; have qB1 := Blk.cell hmB 1; have qB2 := Blk.cell hmB 2; have qBf := hmB.frozen; clear hmB; clear h3 hx HLA HMA qA0 qA1 qA2 qAf))
    go_ret
    unfold SetP
    rw [HS.out]
    exact ⟨rfl, HLB.out, HMB.out⟩
set_option maxRecDepth 100000 in
set_option maxHeartbeats 8000000 in
theorem set_sync1 (w0 : World) (gm g : Nat) (D : DS) (file : Int) (r : Rec) (t v : Int) (w : World) (h : Lw w0 (GM gm) [] g D w) (hm : MetaB w gm g file r) (hgw : w0.heap.size ≤ gm) (hf : 0 ≤ file ∧ file ≤ 1) (ha : 0 ≤ r.age ∧ r.age < 1125899906842624) (ht : I64 t) (hv : I64 v) (hwl : D.wait.length ≤ 1000000) (may : mayB r.term r.vote t v = true) (hs : 0 < sizeF D (1 - file)) (y1 : Int) (D1 : DS) (h1 : cutD D (1 - file) 0 = (y1, D1)) (e1 : y1 = 0) (y2 : Int) (D2 : DS) (h2 : syncD D1 = (y2, D2)) (e2 : y2 ≠ 0) : Calls Try.prog 20 #[.pointer (some ⟨gm, 0, none⟩), .int .i64 t, .int .i64 v] w (SetP w0 gm g (setM D ⟨file, r⟩ t v)) := by
  have hcl : clearD D (1 - file) = (y2, D2) := by unfold clearD; rw [if_pos hs, h1]; exact (if_pos e1).trans h2
  have HS : Hid (setM D ⟨file, r⟩ t v = (y2, D2, ⟨file, r⟩)) := Lib.hid (by unfold setM; rw [if_pos may]; simp only [hcl]; rw [if_neg e2])
  obtain ⟨sz, hsz⟩ : ∃ sz, sz = sizeF D (1 - file) := ⟨_, rfl⟩
  have hszl : sz ≤ 1048576 := hsz ▸ size_len (Lw.is h) (1 - file)
  rw [← hsz] at hs
  have HSZ := Lib.hid hsz
  have hw1 := cut_wait D (1 - file) 0
  rw [h1] at hw1
  simp only at hw1
  have HC1 := Lib.hid h1
  have HC2 := Lib.hid h2
  subst e1
  have b2 : (y2 != 0) = true := by simp [e2]
  clear hsz hcl h1 h2 e2
  have c3 := Blk.cell hm 3
  have c4 := Blk.cell hm 4
  have HM := Lib.hid hm
  have HL := Lib.hid h
  have HMAY := Lib.hid may
  have HTI := Lib.hid ht
  have HVI := Lib.hid hv
  have HGW := Lib.hid hgw
  have HA0 := Lib.hid (show I64 (r.age + 1) by unfold I64; omega)
  obtain ⟨L1, hL1⟩ : ∃ L1, L1 = enc (r.age + 1) := ⟨_, rfl⟩
  obtain ⟨L2, hL2⟩ : ∃ L2, L2 = L1 ++ enc t := ⟨_, rfl⟩
  obtain ⟨L3, hL3⟩ : ∃ L3, L3 = L2 ++ enc v := ⟨_, rfl⟩
  obtain ⟨RB, hRB⟩ : ∃ RB, RB = recB (r.age + 1) t v := ⟨_, rfl⟩
  have hl1 : L1.length ≤ 10 := hL1 ▸ (enc_length _).2
  have hl2 : L2.length ≤ 20 := by rw [hL2, List.length_append]; have := (enc_length t).2; omega
  have hl3 : L3.length ≤ 30 := by rw [hL3, List.length_append]; have := (enc_length v).2; omega
  have hrb : RB.length ≤ 38 := hRB ▸ recB_len _ _ _
  have HE1 := Lib.hid hL1
  have HE2 := Lib.hid hL2
  have HE3 := Lib.hid hL3
  have HRB : Hid (RB = putF [] L3) := Lib.hid (by rw [hRB, hL3, hL2, hL1]; rfl)
  have HBP : Hid (Byt L3) := Lib.hid (by rw [hL3, hL2, hL1]; exact byt3 (show I64 (r.age + 1) by unfold I64; omega) ht hv)
  have HBR : Hid (Byt RB) := Lib.hid (hRB ▸ recB_byt (show I64 (r.age + 1) by unfold I64; omega) ht hv)
  clear hL1 hL2 hL3 hRB
  clear h hm may ht hv
  go_enter Try.func20, Try.ntmps20
  go_wp2_with fail
  refine wp_region_mem [sv _, sv _, sv _, sv _, sv _, sv _, sv _, sv _, sv _, sv _, sv (.bool true), sv (.bool false)] (by kernel_rfl) rfl rfl rfl rfl ⟨
    (by
      intro Lq aq wq hd hj Kq hK
      rw [if_pos (wanted_none rfl)]
      have f0 := hj.base 0 rfl rfl
      exact opMove hK rfl (ev f0) rfl),
    (by
      intro Lq aq wq hd hj Kq hK
      rw [if_pos (wanted_none rfl)]
      have f13 := hj.val 0 13 rfl rfl (by simp) rfl (hd ⟨0, .data⟩ (by simp) rfl)
      exact opNil hK rfl (ev f13) rfl),
    (by
      intro Lq aq wq hd hj Kq hK
      rw [if_pos (wanted_none rfl)]
      have f14 := hj.val 1 14 rfl rfl (by simp) rfl (hd ⟨1, .data⟩ (by simp) rfl)
      exact opFieldA hK rfl (k := 3) (ev f14) (fun W => by kernel_rfl) rfl),
    (by
      intro Lq aq wq hd hj Kq hK
      rw [if_pos (wanted_none rfl)]
      have f15 := hj.val 2 15 rfl rfl (by simp) rfl (hd ⟨2, .data⟩ (by simp) rfl)
      first
        | exact opLoad hK rfl (ev f15) Try.underlying3 rfl (Ext.cell ((Ext.refl None_ w).drew.trans0 hj.ext) c3 (fun a => a)) rfl
        | exact opLoad hK rfl (ev f15) Try.underlying3 rfl (Ext.cell ((Ext.refl None_ w).drew.trans0 hj.ext) c4 (fun a => a)) rfl),
    (by
      intro Lq aq wq hd hj Kq hK
      rw [if_pos (wanted_none rfl)]
      have f0 := hj.base 0 rfl rfl
      exact opMove hK rfl (ev f0) rfl),
    (by
      intro Lq aq wq hd hj Kq hK
      rw [if_pos (wanted_none rfl)]
      have f17 := hj.val 4 17 rfl rfl (by simp) rfl (hd ⟨4, .data⟩ (by simp) rfl)
      exact opNil hK rfl (ev f17) rfl),
    (by
      intro Lq aq wq hd hj Kq hK
      rw [if_pos (wanted_none rfl)]
      have f18 := hj.val 5 18 rfl rfl (by simp) rfl (hd ⟨5, .data⟩ (by simp) rfl)
      exact opFieldA hK rfl (k := 4) (ev f18) (fun W => by kernel_rfl) rfl),
    (by
      intro Lq aq wq hd hj Kq hK
      rw [if_pos (wanted_none rfl)]
      have f19 := hj.val 6 19 rfl rfl (by simp) rfl (hd ⟨6, .data⟩ (by simp) rfl)
      first
        | exact opLoad hK rfl (ev f19) Try.underlying3 rfl (Ext.cell ((Ext.refl None_ w).drew.trans0 hj.ext) c3 (fun a => a)) rfl
        | exact opLoad hK rfl (ev f19) Try.underlying3 rfl (Ext.cell ((Ext.refl None_ w).drew.trans0 hj.ext) c4 (fun a => a)) rfl),
    (by
      intro Lq aq wq hd hj Kq hK
      rw [if_pos (wanted_none rfl)]
      have f1 := hj.base 1 rfl rfl
      exact opMove hK rfl (ev f1) rfl),
    (by
      intro Lq aq wq hd hj Kq hK
      rw [if_pos (wanted_none rfl)]
      have f2 := hj.base 2 rfl rfl
      exact opMove hK rfl (ev f2) rfl),
    (by
      intro Lq aq wq hd hj Kq hK
      rw [if_pos (wanted_none rfl)]
      have f16 := hj.val 3 16 rfl rfl (by simp) rfl (hd ⟨3, .data⟩ (by simp) rfl)
      have f20 := hj.val 7 20 rfl rfl (by simp) rfl (hd ⟨7, .data⟩ (by simp) rfl)
      have f21 := hj.val 8 21 rfl rfl (by simp) rfl (hd ⟨8, .data⟩ (by simp) rfl)
      have f22 := hj.val 9 22 rfl rfl (by simp) rfl (hd ⟨9, .data⟩ (by simp) rfl)
      exact opCall hK Try.func53 (by kernel_rfl) rfl (args := #[.int .i64 r.term, .int .i64 r.vote, .int .i64 t, .int .i64 v]) (by simp [ev f16, ev f20, ev f21, ev f22]) ((may_any r.term r.vote t v _).mono fun e w' ⟨h1, h2⟩ => ⟨_, h1, congrArg Value.bool HMAY.out, h2⟩)),
    (by
      intro Lq aq wq hd hj Kq hK
      rw [if_pos (wanted_none rfl)]
      have f23 := hj.val 10 23 rfl rfl (by simp) rfl (hd ⟨10, .data⟩ (by simp) rfl)
      exact opNot hK rfl (ev f23) rfl),
    trivial⟩ ?fin
  case fin =>
    intro vs w9 hx hg
    have v11 : vs 11 = _ := hg 11 (by decide)
    have X := Lib.hid ((Ext.refl None_ w).drew.trans0 hx)
    clear hx hg
    simp only [putAll, v11, Nat.reduceAdd, Nat.zero_add]
    simp only [Act.put, List.setIfInBounds_toArray, List.set_cons_succ, List.set_cons_zero]
    have hm9 : MetaB w9 gm g file r := Blk.ext HM.out X.out (fun a => a)
    have HL9 := Lib.hid (HL.out.ext0 X.out)
    have HM9 := Lib.hid hm9
    have q0 := Blk.cell hm9 0
    have q1 := Blk.cell hm9 1
    have q2 := Blk.cell hm9 2
    clear hm9 HL HM c3 c4
    go_wp2_with (first
      | (go_at_call 52; refine (is_size (Lw.is HL9.out) (1 - file)).mono ?_; rw [← HSZ.out]; rintro e wA ⟨rfl, hx⟩; have HLA := Lib.hid (HL9.out.ext0 hx); have hmA := meta_keep (w0 := w0) HM9.out (ofQ hx); have HMA := Lib.hid hmA; have qA0 := Blk.cell hmA 0; have qA1 := Blk.cell hmA 1; have qA2 := Blk.cell hmA 2; have qAf := hmA.frozen; clear hmA; clear hx HL9 q0 q1 q2 HM9)
      | (go_at_call 26; refine (lw_cutE HLA.out HC1.out (by omega)).mono ?_; rintro e wB ⟨rfl, h3, hx⟩; have HLB := Lib.hid h3; have hmB := meta_keep (w0 := w0) HMA.out hx; have HMB := Lib.hid hmB; have qB0 := Blk.cell hmB 0; have qB1 := Blk.cell hmB 1; have qB2 := Blk.cell hmB 2; have qBf := hmB.frozen; clear hmB; clear h3 hx HLA HMA qA0 qA1 qA2 qAf)
      | (go_at_call 25; refine (lw_syncE HLB.out HC2.out).mono ?_; rintro e wC ⟨rfl, h3, hx⟩; have HLC := Lib.hid h3; have hmC := meta_keep (w0 := w0) HMB.out hx; have HMC := Lib.hid hmC; have qC0 := Blk.cell hmC 0; have qC1 := Blk.cell hmC 1; have qC2 := Blk.cell hmC 2; have qCf := hmC.frozen; clear hmC; clear h3 hx HLB HMB qB0 qB1 qB2 qBf))
    go_ret
    unfold SetP
    rw [HS.out]
    exact ⟨rfl, HLC.out, HMC.out⟩
set_option maxRecDepth 100000 in
set_option maxHeartbeats 8000000 in
theorem set_writeS (w0 : World) (gm g : Nat) (D : DS) (file : Int) (r : Rec) (t v : Int) (w : World) (h : Lw w0 (GM gm) [] g D w) (hm : MetaB w gm g file r) (hgw : w0.heap.size ≤ gm) (hf : 0 ≤ file ∧ file ≤ 1) (ha : 0 ≤ r.age ∧ r.age < 1125899906842624) (ht : I64 t) (hv : I64 v) (hwl : D.wait.length ≤ 1000000) (may : mayB r.term r.vote t v = true) (hs : 0 < sizeF D (1 - file)) (y1 : Int) (D1 : DS) (h1 : cutD D (1 - file) 0 = (y1, D1)) (e1 : y1 = 0) (y2 : Int) (D2 : DS) (h2 : syncD D1 = (y2, D2)) (e2 : y2 = 0) (y3 : Int) (D3 : DS) (h3 : writeD D2 (1 - file) 0 (recB (r.age + 1) t v) = (y3, D3)) (e3 : y3 ≠ 0) : Calls Try.prog 20 #[.pointer (some ⟨gm, 0, none⟩), .int .i64 t, .int .i64 v] w (SetP w0 gm g (setM D ⟨file, r⟩ t v)) := by
  have hcl : clearD D (1 - file) = (y2, D2) := by unfold clearD; rw [if_pos hs, h1]; exact (if_pos e1).trans h2
  have HS : Hid (setM D ⟨file, r⟩ t v = (y3, D3, ⟨file, r⟩)) := Lib.hid (by unfold setM; rw [if_pos may]; simp only [hcl]; rw [if_pos e2]; rw [h3]; rw [if_neg e3])
  obtain ⟨sz, hsz⟩ : ∃ sz, sz = sizeF D (1 - file) := ⟨_, rfl⟩
  have hszl : sz ≤ 1048576 := hsz ▸ size_len (Lw.is h) (1 - file)
  rw [← hsz] at hs
  have HSZ := Lib.hid hsz
  have hw1 := cut_wait D (1 - file) 0
  rw [h1] at hw1
  simp only at hw1
  have hw2 : D2.wait.length ≤ 1000002 := by have := sync_wait D1; rw [h2] at this; simp only at this; omega
  have HC1 := Lib.hid h1
  have HC2 := Lib.hid h2
  subst e1
  subst e2
  have b3 : (y3 != 0) = true := by simp [e3]
  clear hsz hcl h1 h2 e3
  have c3 := Blk.cell hm 3
  have c4 := Blk.cell hm 4
  have HM := Lib.hid hm
  have HL := Lib.hid h
  have HMAY := Lib.hid may
  have HTI := Lib.hid ht
  have HVI := Lib.hid hv
  have HGW := Lib.hid hgw
  have HA0 := Lib.hid (show I64 (r.age + 1) by unfold I64; omega)
  obtain ⟨L1, hL1⟩ : ∃ L1, L1 = enc (r.age + 1) := ⟨_, rfl⟩
  obtain ⟨L2, hL2⟩ : ∃ L2, L2 = L1 ++ enc t := ⟨_, rfl⟩
  obtain ⟨L3, hL3⟩ : ∃ L3, L3 = L2 ++ enc v := ⟨_, rfl⟩
  obtain ⟨RB, hRB⟩ : ∃ RB, RB = recB (r.age + 1) t v := ⟨_, rfl⟩
  have hl1 : L1.length ≤ 10 := hL1 ▸ (enc_length _).2
  have hl2 : L2.length ≤ 20 := by rw [hL2, List.length_append]; have := (enc_length t).2; omega
  have hl3 : L3.length ≤ 30 := by rw [hL3, List.length_append]; have := (enc_length v).2; omega
  have hrb : RB.length ≤ 38 := hRB ▸ recB_len _ _ _
  have HE1 := Lib.hid hL1
  have HE2 := Lib.hid hL2
  have HE3 := Lib.hid hL3
  have HRB : Hid (RB = putF [] L3) := Lib.hid (by rw [hRB, hL3, hL2, hL1]; rfl)
  have HBP : Hid (Byt L3) := Lib.hid (by rw [hL3, hL2, hL1]; exact byt3 (show I64 (r.age + 1) by unfold I64; omega) ht hv)
  have HBR : Hid (Byt RB) := Lib.hid (hRB ▸ recB_byt (show I64 (r.age + 1) by unfold I64; omega) ht hv)
  rw [← hRB] at h3
  have HC3 := Lib.hid h3
  clear h3
  clear hL1 hL2 hL3 hRB
  clear h hm may ht hv
  go_enter Try.func20, Try.ntmps20
  go_wp2_with fail
  refine wp_region_mem [sv _, sv _, sv _, sv _, sv _, sv _, sv _, sv _, sv _, sv _, sv (.bool true), sv (.bool false)] (by kernel_rfl) rfl rfl rfl rfl ⟨
    (by
      intro Lq aq wq hd hj Kq hK
      rw [if_pos (wanted_none rfl)]
      have f0 := hj.base 0 rfl rfl
      exact opMove hK rfl (ev f0) rfl),
    (by
      intro Lq aq wq hd hj Kq hK
      rw [if_pos (wanted_none rfl)]
      have f13 := hj.val 0 13 rfl rfl (by simp) rfl (hd ⟨0, .data⟩ (by simp) rfl)
      exact opNil hK rfl (ev f13) rfl),
    (by
      intro Lq aq wq hd hj Kq hK
      rw [if_pos (wanted_none rfl)]
      have f14 := hj.val 1 14 rfl rfl (by simp) rfl (hd ⟨1, .data⟩ (by simp) rfl)
      exact opFieldA hK rfl (k := 3) (ev f14) (fun W => by kernel_rfl) rfl),
    (by
      intro Lq aq wq hd hj Kq hK
      rw [if_pos (wanted_none rfl)]
      have f15 := hj.val 2 15 rfl rfl (by simp) rfl (hd ⟨2, .data⟩ (by simp) rfl)
      first
        | exact opLoad hK rfl (ev f15) Try.underlying3 rfl (Ext.cell ((Ext.refl None_ w).drew.trans0 hj.ext) c3 (fun a => a)) rfl
        | exact opLoad hK rfl (ev f15) Try.underlying3 rfl (Ext.cell ((Ext.refl None_ w).drew.trans0 hj.ext) c4 (fun a => a)) rfl),
    (by
      intro Lq aq wq hd hj Kq hK
      rw [if_pos (wanted_none rfl)]
      have f0 := hj.base 0 rfl rfl
      exact opMove hK rfl (ev f0) rfl),
    (by
      intro Lq aq wq hd hj Kq hK
      rw [if_pos (wanted_none rfl)]
      have f17 := hj.val 4 17 rfl rfl (by simp) rfl (hd ⟨4, .data⟩ (by simp) rfl)
      exact opNil hK rfl (ev f17) rfl),
    (by
      intro Lq aq wq hd hj Kq hK
      rw [if_pos (wanted_none rfl)]
      have f18 := hj.val 5 18 rfl rfl (by simp) rfl (hd ⟨5, .data⟩ (by simp) rfl)
      exact opFieldA hK rfl (k := 4) (ev f18) (fun W => by kernel_rfl) rfl),
    (by
      intro Lq aq wq hd hj Kq hK
      rw [if_pos (wanted_none rfl)]
      have f19 := hj.val 6 19 rfl rfl (by simp) rfl (hd ⟨6, .data⟩ (by simp) rfl)
      first
        | exact opLoad hK rfl (ev f19) Try.underlying3 rfl (Ext.cell ((Ext.refl None_ w).drew.trans0 hj.ext) c3 (fun a => a)) rfl
        | exact opLoad hK rfl (ev f19) Try.underlying3 rfl (Ext.cell ((Ext.refl None_ w).drew.trans0 hj.ext) c4 (fun a => a)) rfl),
    (by
      intro Lq aq wq hd hj Kq hK
      rw [if_pos (wanted_none rfl)]
      have f1 := hj.base 1 rfl rfl
      exact opMove hK rfl (ev f1) rfl),
    (by
      intro Lq aq wq hd hj Kq hK
      rw [if_pos (wanted_none rfl)]
      have f2 := hj.base 2 rfl rfl
      exact opMove hK rfl (ev f2) rfl),
    (by
      intro Lq aq wq hd hj Kq hK
      rw [if_pos (wanted_none rfl)]
      have f16 := hj.val 3 16 rfl rfl (by simp) rfl (hd ⟨3, .data⟩ (by simp) rfl)
      have f20 := hj.val 7 20 rfl rfl (by simp) rfl (hd ⟨7, .data⟩ (by simp) rfl)
      have f21 := hj.val 8 21 rfl rfl (by simp) rfl (hd ⟨8, .data⟩ (by simp) rfl)
      have f22 := hj.val 9 22 rfl rfl (by simp) rfl (hd ⟨9, .data⟩ (by simp) rfl)
      exact opCall hK Try.func53 (by kernel_rfl) rfl (args := #[.int .i64 r.term, .int .i64 r.vote, .int .i64 t, .int .i64 v]) (by simp [ev f16, ev f20, ev f21, ev f22]) ((may_any r.term r.vote t v _).mono fun e w' ⟨h1, h2⟩ => ⟨_, h1, congrArg Value.bool HMAY.out, h2⟩)),
    (by
      intro Lq aq wq hd hj Kq hK
      rw [if_pos (wanted_none rfl)]
      have f23 := hj.val 10 23 rfl rfl (by simp) rfl (hd ⟨10, .data⟩ (by simp) rfl)
      exact opNot hK rfl (ev f23) rfl),
    trivial⟩ ?fin
  case fin =>
    intro vs w9 hx hg
    have v11 : vs 11 = _ := hg 11 (by decide)
    have X := Lib.hid ((Ext.refl None_ w).drew.trans0 hx)
    clear hx hg
    simp only [putAll, v11, Nat.reduceAdd, Nat.zero_add]
    simp only [Act.put, List.setIfInBounds_toArray, List.set_cons_succ, List.set_cons_zero]
    have hm9 : MetaB w9 gm g file r := Blk.ext HM.out X.out (fun a => a)
    have HL9 := Lib.hid (HL.out.ext0 X.out)
    have HM9 := Lib.hid hm9
    have q0 := Blk.cell hm9 0
    have q1 := Blk.cell hm9 1
    have q2 := Blk.cell hm9 2
    clear hm9 HL HM c3 c4
    go_wp2_with (first
      | (go_at_call 52; refine (is_size (Lw.is HL9.out) (1 - file)).mono ?_; rw [← HSZ.out]; rintro e wA ⟨rfl, hx⟩; have HLA := Lib.hid (HL9.out.ext0 hx); have hmA := meta_keep (w0 := w0) HM9.out (ofQ hx); have HMA := Lib.hid hmA; have qA0 := Blk.cell hmA 0; have qA1 := Blk.cell hmA 1; have qA2 := Blk.cell hmA 2; have qAf := hmA.frozen; clear hmA; clear hx HL9 q0 q1 q2 HM9)
      | (go_at_call 26; refine (lw_cutE HLA.out HC1.out (by omega)).mono ?_; rintro e wB ⟨rfl, h3, hx⟩; have HLB := Lib.hid h3; have hmB := meta_keep (w0 := w0) HMA.out hx; have HMB := Lib.hid hmB; have qB0 := Blk.cell hmB 0; have qB1 := Blk.cell hmB 1; have qB2 := Blk.cell hmB 2; have qBf := hmB.frozen; clear hmB; clear h3 hx HLA HMA qA0 qA1 qA2 qAf)
      | (go_at_call 25; refine (lw_syncE HLB.out HC2.out).mono ?_; rintro e wC ⟨rfl, h3, hx⟩; have HLC := Lib.hid h3; have hmC := meta_keep (w0 := w0) HMB.out hx; have HMC := Lib.hid hmC; have qC0 := Blk.cell hmC 0; have qC1 := Blk.cell hmC 1; have qC2 := Blk.cell hmC 2; have qCf := hmC.frozen; clear hmC; clear h3 hx HLB HMB qB0 qB1 qB2 qBf)
      | (go_at_call 55; refine (wNum_any none 0 [] (r.age + 1) _ HA0.out (Row.nil _ _) (by simp)).mono ?_; rintro e wD ⟨vn, rfl, hon, hx⟩; rw [List.nil_append, ← HE1.out] at hon; obtain ⟨A1, c1, rfl, hrn⟩ := own_sl hon; have HR1 := Lib.hid hrn; have HLD := Lib.hid (HLC.out.ext0 hx); have hmD := meta_keep (w0 := w0) HMC.out (ofQ hx); have HMD := Lib.hid hmD; have qD0 := Blk.cell hmD 0; have qD1 := Blk.cell hmD 1; have qD2 := Blk.cell hmD 2; have qDf := hmD.frozen; clear hmD; clear hx hon hrn HLC HA0 HMC qC0 qC1 qC2 qCf)
      | (go_at_call 55; refine (wNum_any A1 c1 (L1) t _ HTI.out HR1.out (by omega)).mono ?_; rintro e wE ⟨vn, rfl, hon, hx⟩; rw [← HE2.out] at hon; obtain ⟨A2, c2, rfl, hrn⟩ := own_sl hon; have HR2 := Lib.hid hrn; have HLE := Lib.hid (HLD.out.ext0 hx); have hmE := meta_keep (w0 := w0) HMD.out (ofQ hx); have HME := Lib.hid hmE; have qE0 := Blk.cell hmE 0; have qE1 := Blk.cell hmE 1; have qE2 := Blk.cell hmE 2; have qEf := hmE.frozen; clear hmE; clear hx hon hrn HLD HR1 HTI HMD qD0 qD1 qD2 qDf)
      | (go_at_call 55; refine (wNum_any A2 c2 (L2) v _ HVI.out HR2.out (by omega)).mono ?_; rintro e wF ⟨vn, rfl, hon, hx⟩; rw [← HE3.out] at hon; obtain ⟨A3, c3, rfl, hrn⟩ := own_sl hon; have HR3 := Lib.hid hrn; have HLF := Lib.hid (HLE.out.ext0 hx); have hmF := meta_keep (w0 := w0) HME.out (ofQ hx); have HMF := Lib.hid hmF; have qF0 := Blk.cell hmF 0; have qF1 := Blk.cell hmF 1; have qF2 := Blk.cell hmF 2; have qFf := hmF.frozen; clear hmF; clear hx hon hrn HLE HR2 HVI HME qE0 qE1 qE2 qEf)
      | (go_at_call 54; refine (putFr_any none 0 [] A3 c3 L3 _ (Row.nil _ _) HR3.out HBP.out (by simp only [List.length_nil]; omega)).mono ?_; rintro e wG ⟨vn, rfl, hon, hx⟩; rw [← HRB.out] at hon; obtain ⟨A4, c4, rfl, hrn⟩ := own_sl hon; have HR4 := Lib.hid hrn; have HLG := Lib.hid (Lw.addRow HLF.out hx hrn (fun ad e => by subst e; exact ⟨hon.blk _ rfl, Own.lt hon _ rfl⟩)); have hmG := meta_keep (w0 := w0) HMF.out (ofQ hx); have HMG := Lib.hid hmG; have qG0 := Blk.cell hmG 0; have qG1 := Blk.cell hmG 1; have qG2 := Blk.cell hmG 2; have qGf := hmG.frozen; clear hmG; clear hx hon hrn HLF HR3 HMF qF0 qF1 qF2 qFf)
      | (go_at_call 15; refine (lw_writeE HLG.out HC3.out A4 c4 HR4.out HBR.out (fun ad e _ => .inl ⟨_, List.mem_cons_self .., e⟩) (by omega) (by omega)).mono ?_; rintro e wI ⟨rfl, h3, hx⟩; have HLI := Lib.hid (h3.sub (rs' := GM gm) (fun _ h => List.mem_cons_of_mem _ h) (fun _ h => h)); have hmI := meta_keep (w0 := w0) HMG.out (hx.mono (fun k _ hk => ⟨hk.1, fun r hr => hk.2 r (List.mem_cons_of_mem _ hr)⟩)); have HMI := Lib.hid hmI; have qI0 := Blk.cell hmI 0; have qI1 := Blk.cell hmI 1; have qI2 := Blk.cell hmI 2; have qIf := hmI.frozen; clear hmI; clear h3 hx HLG HMG qG0 qG1 qG2 qGf HR4))
    go_ret
    unfold SetP
    rw [HS.out]
    exact ⟨rfl, HLI.out, HMI.out⟩
set_option maxRecDepth 100000 in
set_option maxHeartbeats 8000000 in
theorem set_sync2S (w0 : World) (gm g : Nat) (D : DS) (file : Int) (r : Rec) (t v : Int) (w : World) (h : Lw w0 (GM gm) [] g D w) (hm : MetaB w gm g file r) (hgw : w0.heap.size ≤ gm) (hf : 0 ≤ file ∧ file ≤ 1) (ha : 0 ≤ r.age ∧ r.age < 1125899906842624) (ht : I64 t) (hv : I64 v) (hwl : D.wait.length ≤ 1000000) (may : mayB r.term r.vote t v = true) (hs : 0 < sizeF D (1 - file)) (y1 : Int) (D1 : DS) (h1 : cutD D (1 - file) 0 = (y1, D1)) (e1 : y1 = 0) (y2 : Int) (D2 : DS) (h2 : syncD D1 = (y2, D2)) (e2 : y2 = 0) (y3 : Int) (D3 : DS) (h3 : writeD D2 (1 - file) 0 (recB (r.age + 1) t v) = (y3, D3)) (e3 : y3 = 0) (y4 : Int) (D4 : DS) (h4 : syncD D3 = (y4, D4)) (e4 : y4 ≠ 0) : Calls Try.prog 20 #[.pointer (some ⟨gm, 0, none⟩), .int .i64 t, .int .i64 v] w (SetP w0 gm g (setM D ⟨file, r⟩ t v)) := by
  have hcl : clearD D (1 - file) = (y2, D2) := by unfold clearD; rw [if_pos hs, h1]; exact (if_pos e1).trans h2
  have HS : Hid (setM D ⟨file, r⟩ t v = (y4, D4, ⟨file, r⟩)) := Lib.hid (by unfold setM; rw [if_pos may]; simp only [hcl]; rw [if_pos e2]; rw [h3]; rw [if_pos e3, h4]; rw [if_neg e4])
  obtain ⟨sz, hsz⟩ : ∃ sz, sz = sizeF D (1 - file) := ⟨_, rfl⟩
  have hszl : sz ≤ 1048576 := hsz ▸ size_len (Lw.is h) (1 - file)
  rw [← hsz] at hs
  have HSZ := Lib.hid hsz
  have hw1 := cut_wait D (1 - file) 0
  rw [h1] at hw1
  simp only at hw1
  have hw2 : D2.wait.length ≤ 1000002 := by have := sync_wait D1; rw [h2] at this; simp only at this; omega
  have HC1 := Lib.hid h1
  have HC2 := Lib.hid h2
  have HC4 := Lib.hid h4
  subst e1
  subst e2
  subst e3
  have b4 : (y4 != 0) = true := by simp [e4]
  clear hsz hcl h1 h2 h4 e4
  have c3 := Blk.cell hm 3
  have c4 := Blk.cell hm 4
  have HM := Lib.hid hm
  have HL := Lib.hid h
  have HMAY := Lib.hid may
  have HTI := Lib.hid ht
  have HVI := Lib.hid hv
  have HGW := Lib.hid hgw
  have HA0 := Lib.hid (show I64 (r.age + 1) by unfold I64; omega)
  obtain ⟨L1, hL1⟩ : ∃ L1, L1 = enc (r.age + 1) := ⟨_, rfl⟩
  obtain ⟨L2, hL2⟩ : ∃ L2, L2 = L1 ++ enc t := ⟨_, rfl⟩
  obtain ⟨L3, hL3⟩ : ∃ L3, L3 = L2 ++ enc v := ⟨_, rfl⟩
  obtain ⟨RB, hRB⟩ : ∃ RB, RB = recB (r.age + 1) t v := ⟨_, rfl⟩
  have hl1 : L1.length ≤ 10 := hL1 ▸ (enc_length _).2
  have hl2 : L2.length ≤ 20 := by rw [hL2, List.length_append]; have := (enc_length t).2; omega
  have hl3 : L3.length ≤ 30 := by rw [hL3, List.length_append]; have := (enc_length v).2; omega
  have hrb : RB.length ≤ 38 := hRB ▸ recB_len _ _ _
  have HE1 := Lib.hid hL1
  have HE2 := Lib.hid hL2
  have HE3 := Lib.hid hL3
  have HRB : Hid (RB = putF [] L3) := Lib.hid (by rw [hRB, hL3, hL2, hL1]; rfl)
  have HBP : Hid (Byt L3) := Lib.hid (by rw [hL3, hL2, hL1]; exact byt3 (show I64 (r.age + 1) by unfold I64; omega) ht hv)
  have HBR : Hid (Byt RB) := Lib.hid (hRB ▸ recB_byt (show I64 (r.age + 1) by unfold I64; omega) ht hv)
  rw [← hRB] at h3
  have HC3 := Lib.hid h3
  clear h3
  clear hL1 hL2 hL3 hRB
  clear h hm may ht hv
  go_enter Try.func20, Try.ntmps20
  go_wp2_with fail
  refine wp_region_mem [sv _, sv _, sv _, sv _, sv _, sv _, sv _, sv _, sv _, sv _, sv (.bool true), sv (.bool false)] (by kernel_rfl) rfl rfl rfl rfl ⟨
    (by
      intro Lq aq wq hd hj Kq hK
      rw [if_pos (wanted_none rfl)]
      have f0 := hj.base 0 rfl rfl
      exact opMove hK rfl (ev f0) rfl),
    (by
      intro Lq aq wq hd hj Kq hK
      rw [if_pos (wanted_none rfl)]
      have f13 := hj.val 0 13 rfl rfl (by simp) rfl (hd ⟨0, .data⟩ (by simp) rfl)
      exact opNil hK rfl (ev f13) rfl),
    (by
      intro Lq aq wq hd hj Kq hK
      rw [if_pos (wanted_none rfl)]
      have f14 := hj.val 1 14 rfl rfl (by simp) rfl (hd ⟨1, .data⟩ (by simp) rfl)
      exact opFieldA hK rfl (k := 3) (ev f14) (fun W => by kernel_rfl) rfl),
    (by
      intro Lq aq wq hd hj Kq hK
      rw [if_pos (wanted_none rfl)]
      have f15 := hj.val 2 15 rfl rfl (by simp) rfl (hd ⟨2, .data⟩ (by simp) rfl)
      first
        | exact opLoad hK rfl (ev f15) Try.underlying3 rfl (Ext.cell ((Ext.refl None_ w).drew.trans0 hj.ext) c3 (fun a => a)) rfl
        | exact opLoad hK rfl (ev f15) Try.underlying3 rfl (Ext.cell ((Ext.refl None_ w).drew.trans0 hj.ext) c4 (fun a => a)) rfl),
    (by
      intro Lq aq wq hd hj Kq hK
      rw [if_pos (wanted_none rfl)]
      have f0 := hj.base 0 rfl rfl
      exact opMove hK rfl (ev f0) rfl),
    (by
      intro Lq aq wq hd hj Kq hK
      rw [if_pos (wanted_none rfl)]
      have f17 := hj.val 4 17 rfl rfl (by simp) rfl (hd ⟨4, .data⟩ (by simp) rfl)
      exact opNil hK rfl (ev f17) rfl),
    (by
      intro Lq aq wq hd hj Kq hK
      rw [if_pos (wanted_none rfl)]
      have f18 := hj.val 5 18 rfl rfl (by simp) rfl (hd ⟨5, .data⟩ (by simp) rfl)
      exact opFieldA hK rfl (k := 4) (ev f18) (fun W => by kernel_rfl) rfl),
    (by
      intro Lq aq wq hd hj Kq hK
      rw [if_pos (wanted_none rfl)]
      have f19 := hj.val 6 19 rfl rfl (by simp) rfl (hd ⟨6, .data⟩ (by simp) rfl)
      first
        | exact opLoad hK rfl (ev f19) Try.underlying3 rfl (Ext.cell ((Ext.refl None_ w).drew.trans0 hj.ext) c3 (fun a => a)) rfl
        | exact opLoad hK rfl (ev f19) Try.underlying3 rfl (Ext.cell ((Ext.refl None_ w).drew.trans0 hj.ext) c4 (fun a => a)) rfl),
    (by
      intro Lq aq wq hd hj Kq hK
      rw [if_pos (wanted_none rfl)]
      have f1 := hj.base 1 rfl rfl
      exact opMove hK rfl (ev f1) rfl),
    (by
      intro Lq aq wq hd hj Kq hK
      rw [if_pos (wanted_none rfl)]
      have f2 := hj.base 2 rfl rfl
      exact opMove hK rfl (ev f2) rfl),
    (by
      intro Lq aq wq hd hj Kq hK
      rw [if_pos (wanted_none rfl)]
      have f16 := hj.val 3 16 rfl rfl (by simp) rfl (hd ⟨3, .data⟩ (by simp) rfl)
      have f20 := hj.val 7 20 rfl rfl (by simp) rfl (hd ⟨7, .data⟩ (by simp) rfl)
      have f21 := hj.val 8 21 rfl rfl (by simp) rfl (hd ⟨8, .data⟩ (by simp) rfl)
      have f22 := hj.val 9 22 rfl rfl (by simp) rfl (hd ⟨9, .data⟩ (by simp) rfl)
      exact opCall hK Try.func53 (by kernel_rfl) rfl (args := #[.int .i64 r.term, .int .i64 r.vote, .int .i64 t, .int .i64 v]) (by simp [ev f16, ev f20, ev f21, ev f22]) ((may_any r.term r.vote t v _).mono fun e w' ⟨h1, h2⟩ => ⟨_, h1, congrArg Value.bool HMAY.out, h2⟩)),
    (by
      intro Lq aq wq hd hj Kq hK
      rw [if_pos (wanted_none rfl)]
      have f23 := hj.val 10 23 rfl rfl (by simp) rfl (hd ⟨10, .data⟩ (by simp) rfl)
      exact opNot hK rfl (ev f23) rfl),
    trivial⟩ ?fin
  case fin =>
    intro vs w9 hx hg
    have v11 : vs 11 = _ := hg 11 (by decide)
    have X := Lib.hid ((Ext.refl None_ w).drew.trans0 hx)
    clear hx hg
    simp only [putAll, v11, Nat.reduceAdd, Nat.zero_add]
    simp only [Act.put, List.setIfInBounds_toArray, List.set_cons_succ, List.set_cons_zero]
    have hm9 : MetaB w9 gm g file r := Blk.ext HM.out X.out (fun a => a)
    have HL9 := Lib.hid (HL.out.ext0 X.out)
    have HM9 := Lib.hid hm9
    have q0 := Blk.cell hm9 0
    have q1 := Blk.cell hm9 1
    have q2 := Blk.cell hm9 2
    clear hm9 HL HM c3 c4
    go_wp2_with (first
      | (go_at_call 52; refine (is_size (Lw.is HL9.out) (1 - file)).mono ?_; rw [← HSZ.out]; rintro e wA ⟨rfl, hx⟩; have HLA := Lib.hid (HL9.out.ext0 hx); have hmA := meta_keep (w0 := w0) HM9.out (ofQ hx); have HMA := Lib.hid hmA; have qA0 := Blk.cell hmA 0; have qA1 := Blk.cell hmA 1; have qA2 := Blk.cell hmA 2; have qAf := hmA.frozen; clear hmA; clear hx HL9 q0 q1 q2 HM9)
      | (go_at_call 26; refine (lw_cutE HLA.out HC1.out (by omega)).mono ?_; rintro e wB ⟨rfl, h3, hx⟩; have HLB := Lib.hid h3; have hmB := meta_keep (w0 := w0) HMA.out hx; have HMB := Lib.hid hmB; have qB0 := Blk.cell hmB 0; have qB1 := Blk.cell hmB 1; have qB2 := Blk.cell hmB 2; have qBf := hmB.frozen; clear hmB; clear h3 hx HLA HMA qA0 qA1 qA2 qAf)
      | (go_at_call 25; refine (lw_syncE HLB.out HC2.out).mono ?_; rintro e wC ⟨rfl, h3, hx⟩; have HLC := Lib.hid h3; have hmC := meta_keep (w0 := w0) HMB.out hx; have HMC := Lib.hid hmC; have qC0 := Blk.cell hmC 0; have qC1 := Blk.cell hmC 1; have qC2 := Blk.cell hmC 2; have qCf := hmC.frozen; clear hmC; clear h3 hx HLB HMB qB0 qB1 qB2 qBf)
      | (go_at_call 55; refine (wNum_any none 0 [] (r.age + 1) _ HA0.out (Row.nil _ _) (by simp)).mono ?_; rintro e wD ⟨vn, rfl, hon, hx⟩; rw [List.nil_append, ← HE1.out] at hon; obtain ⟨A1, c1, rfl, hrn⟩ := own_sl hon; have HR1 := Lib.hid hrn; have HLD := Lib.hid (HLC.out.ext0 hx); have hmD := meta_keep (w0 := w0) HMC.out (ofQ hx); have HMD := Lib.hid hmD; have qD0 := Blk.cell hmD 0; have qD1 := Blk.cell hmD 1; have qD2 := Blk.cell hmD 2; have qDf := hmD.frozen; clear hmD; clear hx hon hrn HLC HA0 HMC qC0 qC1 qC2 qCf)
      | (go_at_call 55; refine (wNum_any A1 c1 (L1) t _ HTI.out HR1.out (by omega)).mono ?_; rintro e wE ⟨vn, rfl, hon, hx⟩; rw [← HE2.out] at hon; obtain ⟨A2, c2, rfl, hrn⟩ := own_sl hon; have HR2 := Lib.hid hrn; have HLE := Lib.hid (HLD.out.ext0 hx); have hmE := meta_keep (w0 := w0) HMD.out (ofQ hx); have HME := Lib.hid hmE; have qE0 := Blk.cell hmE 0; have qE1 := Blk.cell hmE 1; have qE2 := Blk.cell hmE 2; have qEf := hmE.frozen; clear hmE; clear hx hon hrn HLD HR1 HTI HMD qD0 qD1 qD2 qDf)
      | (go_at_call 55; refine (wNum_any A2 c2 (L2) v _ HVI.out HR2.out (by omega)).mono ?_; rintro e wF ⟨vn, rfl, hon, hx⟩; rw [← HE3.out] at hon; obtain ⟨A3, c3, rfl, hrn⟩ := own_sl hon; have HR3 := Lib.hid hrn; have HLF := Lib.hid (HLE.out.ext0 hx); have hmF := meta_keep (w0 := w0) HME.out (ofQ hx); have HMF := Lib.hid hmF; have qF0 := Blk.cell hmF 0; have qF1 := Blk.cell hmF 1; have qF2 := Blk.cell hmF 2; have qFf := hmF.frozen; clear hmF; clear hx hon hrn HLE HR2 HVI HME qE0 qE1 qE2 qEf)
      | (go_at_call 54; refine (putFr_any none 0 [] A3 c3 L3 _ (Row.nil _ _) HR3.out HBP.out (by simp only [List.length_nil]; omega)).mono ?_; rintro e wG ⟨vn, rfl, hon, hx⟩; rw [← HRB.out] at hon; obtain ⟨A4, c4, rfl, hrn⟩ := own_sl hon; have HR4 := Lib.hid hrn; have HLG := Lib.hid (Lw.addRow HLF.out hx hrn (fun ad e => by subst e; exact ⟨hon.blk _ rfl, Own.lt hon _ rfl⟩)); have hmG := meta_keep (w0 := w0) HMF.out (ofQ hx); have HMG := Lib.hid hmG; have qG0 := Blk.cell hmG 0; have qG1 := Blk.cell hmG 1; have qG2 := Blk.cell hmG 2; have qGf := hmG.frozen; clear hmG; clear hx hon hrn HLF HR3 HMF qF0 qF1 qF2 qFf)
      | (go_at_call 15; refine (lw_writeE HLG.out HC3.out A4 c4 HR4.out HBR.out (fun ad e _ => .inl ⟨_, List.mem_cons_self .., e⟩) (by omega) (by omega)).mono ?_; rintro e wI ⟨rfl, h3, hx⟩; have HLI := Lib.hid (h3.sub (rs' := GM gm) (fun _ h => List.mem_cons_of_mem _ h) (fun _ h => h)); have hmI := meta_keep (w0 := w0) HMG.out (hx.mono (fun k _ hk => ⟨hk.1, fun r hr => hk.2 r (List.mem_cons_of_mem _ hr)⟩)); have HMI := Lib.hid hmI; have qI0 := Blk.cell hmI 0; have qI1 := Blk.cell hmI 1; have qI2 := Blk.cell hmI 2; have qIf := hmI.frozen; clear hmI; clear h3 hx HLG HMG qG0 qG1 qG2 qGf HR4)
      | (go_at_call 25; refine (lw_syncE HLI.out HC4.out).mono ?_; rintro e wJ ⟨rfl, h3, hx⟩; have HLJ := Lib.hid h3; have hmJ := meta_keep (w0 := w0) HMI.out hx; have HMJ := Lib.hid hmJ; have qJ0 := Blk.cell hmJ 0; have qJ1 := Blk.cell hmJ 1; have qJ2 := Blk.cell hmJ 2; have qJf := hmJ.frozen; clear hmJ; have qJ3 := Blk.cell HMJ.out 3; have qJ4 := Blk.cell HMJ.out 4; clear h3 hx HLI HMI qI0 qI1 qI2 qIf))
    go_ret
    unfold SetP
    rw [HS.out]
    exact ⟨rfl, HLJ.out, HMJ.out⟩
set_option maxRecDepth 100000 in
set_option maxHeartbeats 8000000 in
theorem set_okS (w0 : World) (gm g : Nat) (D : DS) (file : Int) (r : Rec) (t v : Int) (w : World) (h : Lw w0 (GM gm) [] g D w) (hm : MetaB w gm g file r) (hgw : w0.heap.size ≤ gm) (hf : 0 ≤ file ∧ file ≤ 1) (ha : 0 ≤ r.age ∧ r.age < 1125899906842624) (ht : I64 t) (hv : I64 v) (hwl : D.wait.length ≤ 1000000) (may : mayB r.term r.vote t v = true) (hs : 0 < sizeF D (1 - file)) (y1 : Int) (D1 : DS) (h1 : cutD D (1 - file) 0 = (y1, D1)) (e1 : y1 = 0) (y2 : Int) (D2 : DS) (h2 : syncD D1 = (y2, D2)) (e2 : y2 = 0) (y3 : Int) (D3 : DS) (h3 : writeD D2 (1 - file) 0 (recB (r.age + 1) t v) = (y3, D3)) (e3 : y3 = 0) (y4 : Int) (D4 : DS) (h4 : syncD D3 = (y4, D4)) (e4 : y4 = 0) : Calls Try.prog 20 #[.pointer (some ⟨gm, 0, none⟩), .int .i64 t, .int .i64 v] w (SetP w0 gm g (setM D ⟨file, r⟩ t v)) := by
  have hcl : clearD D (1 - file) = (y2, D2) := by unfold clearD; rw [if_pos hs, h1]; exact (if_pos e1).trans h2
  have HS : Hid (setM D ⟨file, r⟩ t v = (0, D4, ⟨1 - file, ⟨r.age + 1, t, v⟩⟩)) := Lib.hid (by unfold setM; rw [if_pos may]; simp only [hcl]; rw [if_pos e2]; rw [h3]; rw [if_pos e3, h4]; rw [if_pos e4])
  obtain ⟨sz, hsz⟩ : ∃ sz, sz = sizeF D (1 - file) := ⟨_, rfl⟩
  have hszl : sz ≤ 1048576 := hsz ▸ size_len (Lw.is h) (1 - file)
  rw [← hsz] at hs
  have HSZ := Lib.hid hsz
  have hw1 := cut_wait D (1 - file) 0
  rw [h1] at hw1
  simp only at hw1
  have hw2 : D2.wait.length ≤ 1000002 := by have := sync_wait D1; rw [h2] at this; simp only at this; omega
  have HC1 := Lib.hid h1
  have HC2 := Lib.hid h2
  have HC4 := Lib.hid h4
  subst e1
  subst e2
  subst e3
  subst e4
  clear hsz hcl h1 h2 h4
  have c3 := Blk.cell hm 3
  have c4 := Blk.cell hm 4
  have HM := Lib.hid hm
  have HL := Lib.hid h
  have HMAY := Lib.hid may
  have HTI := Lib.hid ht
  have HVI := Lib.hid hv
  have HGW := Lib.hid hgw
  have HA0 := Lib.hid (show I64 (r.age + 1) by unfold I64; omega)
  obtain ⟨L1, hL1⟩ : ∃ L1, L1 = enc (r.age + 1) := ⟨_, rfl⟩
  obtain ⟨L2, hL2⟩ : ∃ L2, L2 = L1 ++ enc t := ⟨_, rfl⟩
  obtain ⟨L3, hL3⟩ : ∃ L3, L3 = L2 ++ enc v := ⟨_, rfl⟩
  obtain ⟨RB, hRB⟩ : ∃ RB, RB = recB (r.age + 1) t v := ⟨_, rfl⟩
  have hl1 : L1.length ≤ 10 := hL1 ▸ (enc_length _).2
  have hl2 : L2.length ≤ 20 := by rw [hL2, List.length_append]; have := (enc_length t).2; omega
  have hl3 : L3.length ≤ 30 := by rw [hL3, List.length_append]; have := (enc_length v).2; omega
  have hrb : RB.length ≤ 38 := hRB ▸ recB_len _ _ _
  have HE1 := Lib.hid hL1
  have HE2 := Lib.hid hL2
  have HE3 := Lib.hid hL3
  have HRB : Hid (RB = putF [] L3) := Lib.hid (by rw [hRB, hL3, hL2, hL1]; rfl)
  have HBP : Hid (Byt L3) := Lib.hid (by rw [hL3, hL2, hL1]; exact byt3 (show I64 (r.age + 1) by unfold I64; omega) ht hv)
  have HBR : Hid (Byt RB) := Lib.hid (hRB ▸ recB_byt (show I64 (r.age + 1) by unfold I64; omega) ht hv)
  rw [← hRB] at h3
  have HC3 := Lib.hid h3
  clear h3
  clear hL1 hL2 hL3 hRB
  clear h hm may ht hv
  go_enter Try.func20, Try.ntmps20
  go_wp2_with fail
  refine wp_region_mem [sv _, sv _, sv _, sv _, sv _, sv _, sv _, sv _, sv _, sv _, sv (.bool true), sv (.bool false)] (by kernel_rfl) rfl rfl rfl rfl ⟨
    (by
      intro Lq aq wq hd hj Kq hK
      rw [if_pos (wanted_none rfl)]
      have f0 := hj.base 0 rfl rfl
      exact opMove hK rfl (ev f0) rfl),
    (by
      intro Lq aq wq hd hj Kq hK
      rw [if_pos (wanted_none rfl)]
      have f13 := hj.val 0 13 rfl rfl (by simp) rfl (hd ⟨0, .data⟩ (by simp) rfl)
      exact opNil hK rfl (ev f13) rfl),
    (by
      intro Lq aq wq hd hj Kq hK
      rw [if_pos (wanted_none rfl)]
      have f14 := hj.val 1 14 rfl rfl (by simp) rfl (hd ⟨1, .data⟩ (by simp) rfl)
      exact opFieldA hK rfl (k := 3) (ev f14) (fun W => by kernel_rfl) rfl),
    (by
      intro Lq aq wq hd hj Kq hK
      rw [if_pos (wanted_none rfl)]
      have f15 := hj.val 2 15 rfl rfl (by simp) rfl (hd ⟨2, .data⟩ (by simp) rfl)
      first
        | exact opLoad hK rfl (ev f15) Try.underlying3 rfl (Ext.cell ((Ext.refl None_ w).drew.trans0 hj.ext) c3 (fun a => a)) rfl
        | exact opLoad hK rfl (ev f15) Try.underlying3 rfl (Ext.cell ((Ext.refl None_ w).drew.trans0 hj.ext) c4 (fun a => a)) rfl),
    (by
      intro Lq aq wq hd hj Kq hK
      rw [if_pos (wanted_none rfl)]
      have f0 := hj.base 0 rfl rfl
      exact opMove hK rfl (ev f0) rfl),
    (by
      intro Lq aq wq hd hj Kq hK
      rw [if_pos (wanted_none rfl)]
      have f17 := hj.val 4 17 rfl rfl (by simp) rfl (hd ⟨4, .data⟩ (by simp) rfl)
      exact opNil hK rfl (ev f17) rfl),
    (by
      intro Lq aq wq hd hj Kq hK
      rw [if_pos (wanted_none rfl)]
      have f18 := hj.val 5 18 rfl rfl (by simp) rfl (hd ⟨5, .data⟩ (by simp) rfl)
      exact opFieldA hK rfl (k := 4) (ev f18) (fun W => by kernel_rfl) rfl),
    (by
      intro Lq aq wq hd hj Kq hK
      rw [if_pos (wanted_none rfl)]
      have f19 := hj.val 6 19 rfl rfl (by simp) rfl (hd ⟨6, .data⟩ (by simp) rfl)
      first
        | exact opLoad hK rfl (ev f19) Try.underlying3 rfl (Ext.cell ((Ext.refl None_ w).drew.trans0 hj.ext) c3 (fun a => a)) rfl
        | exact opLoad hK rfl (ev f19) Try.underlying3 rfl (Ext.cell ((Ext.refl None_ w).drew.trans0 hj.ext) c4 (fun a => a)) rfl),
    (by
      intro Lq aq wq hd hj Kq hK
      rw [if_pos (wanted_none rfl)]
      have f1 := hj.base 1 rfl rfl
      exact opMove hK rfl (ev f1) rfl),
    (by
      intro Lq aq wq hd hj Kq hK
      rw [if_pos (wanted_none rfl)]
      have f2 := hj.base 2 rfl rfl
      exact opMove hK rfl (ev f2) rfl),
    (by
      intro Lq aq wq hd hj Kq hK
      rw [if_pos (wanted_none rfl)]
      have f16 := hj.val 3 16 rfl rfl (by simp) rfl (hd ⟨3, .data⟩ (by simp) rfl)
      have f20 := hj.val 7 20 rfl rfl (by simp) rfl (hd ⟨7, .data⟩ (by simp) rfl)
      have f21 := hj.val 8 21 rfl rfl (by simp) rfl (hd ⟨8, .data⟩ (by simp) rfl)
      have f22 := hj.val 9 22 rfl rfl (by simp) rfl (hd ⟨9, .data⟩ (by simp) rfl)
      exact opCall hK Try.func53 (by kernel_rfl) rfl (args := #[.int .i64 r.term, .int .i64 r.vote, .int .i64 t, .int .i64 v]) (by simp [ev f16, ev f20, ev f21, ev f22]) ((may_any r.term r.vote t v _).mono fun e w' ⟨h1, h2⟩ => ⟨_, h1, congrArg Value.bool HMAY.out, h2⟩)),
    (by
      intro Lq aq wq hd hj Kq hK
      rw [if_pos (wanted_none rfl)]
      have f23 := hj.val 10 23 rfl rfl (by simp) rfl (hd ⟨10, .data⟩ (by simp) rfl)
      exact opNot hK rfl (ev f23) rfl),
    trivial⟩ ?fin
  case fin =>
    intro vs w9 hx hg
    have v11 : vs 11 = _ := hg 11 (by decide)
    have X := Lib.hid ((Ext.refl None_ w).drew.trans0 hx)
    clear hx hg
    simp only [putAll, v11, Nat.reduceAdd, Nat.zero_add]
    simp only [Act.put, List.setIfInBounds_toArray, List.set_cons_succ, List.set_cons_zero]
    have hm9 : MetaB w9 gm g file r := Blk.ext HM.out X.out (fun a => a)
    have HL9 := Lib.hid (HL.out.ext0 X.out)
    have HM9 := Lib.hid hm9
    have q0 := Blk.cell hm9 0
    have q1 := Blk.cell hm9 1
    have q2 := Blk.cell hm9 2
    clear hm9 HL HM c3 c4
    go_wp2_with (first
      | (go_at_call 52; refine (is_size (Lw.is HL9.out) (1 - file)).mono ?_; rw [← HSZ.out]; rintro e wA ⟨rfl, hx⟩; have HLA := Lib.hid (HL9.out.ext0 hx); have hmA := meta_keep (w0 := w0) HM9.out (ofQ hx); have HMA := Lib.hid hmA; have qA0 := Blk.cell hmA 0; have qA1 := Blk.cell hmA 1; have qA2 := Blk.cell hmA 2; have qAf := hmA.frozen; clear hmA; clear hx HL9 q0 q1 q2 HM9)
      | (go_at_call 26; refine (lw_cutE HLA.out HC1.out (by omega)).mono ?_; rintro e wB ⟨rfl, h3, hx⟩; have HLB := Lib.hid h3; have hmB := meta_keep (w0 := w0) HMA.out hx; have HMB := Lib.hid hmB; have qB0 := Blk.cell hmB 0; have qB1 := Blk.cell hmB 1; have qB2 := Blk.cell hmB 2; have qBf := hmB.frozen; clear hmB; clear h3 hx HLA HMA qA0 qA1 qA2 qAf)
      | (go_at_call 25; refine (lw_syncE HLB.out HC2.out).mono ?_; rintro e wC ⟨rfl, h3, hx⟩; have HLC := Lib.hid h3; have hmC := meta_keep (w0 := w0) HMB.out hx; have HMC := Lib.hid hmC; have qC0 := Blk.cell hmC 0; have qC1 := Blk.cell hmC 1; have qC2 := Blk.cell hmC 2; have qCf := hmC.frozen; clear hmC; clear h3 hx HLB HMB qB0 qB1 qB2 qBf)
      | (go_at_call 55; refine (wNum_any none 0 [] (r.age + 1) _ HA0.out (Row.nil _ _) (by simp)).mono ?_; rintro e wD ⟨vn, rfl, hon, hx⟩; rw [List.nil_append, ← HE1.out] at hon; obtain ⟨A1, c1, rfl, hrn⟩ := own_sl hon; have HR1 := Lib.hid hrn; have HLD := Lib.hid (HLC.out.ext0 hx); have hmD := meta_keep (w0 := w0) HMC.out (ofQ hx); have HMD := Lib.hid hmD; have qD0 := Blk.cell hmD 0; have qD1 := Blk.cell hmD 1; have qD2 := Blk.cell hmD 2; have qDf := hmD.frozen; clear hmD; clear hx hon hrn HLC HA0 HMC qC0 qC1 qC2 qCf)
      | (go_at_call 55; refine (wNum_any A1 c1 (L1) t _ HTI.out HR1.out (by omega)).mono ?_; rintro e wE ⟨vn, rfl, hon, hx⟩; rw [← HE2.out] at hon; obtain ⟨A2, c2, rfl, hrn⟩ := own_sl hon; have HR2 := Lib.hid hrn; have HLE := Lib.hid (HLD.out.ext0 hx); have hmE := meta_keep (w0 := w0) HMD.out (ofQ hx); have HME := Lib.hid hmE; have qE0 := Blk.cell hmE 0; have qE1 := Blk.cell hmE 1; have qE2 := Blk.cell hmE 2; have qEf := hmE.frozen; clear hmE; clear hx hon hrn HLD HR1 HTI HMD qD0 qD1 qD2 qDf)
      | (go_at_call 55; refine (wNum_any A2 c2 (L2) v _ HVI.out HR2.out (by omega)).mono ?_; rintro e wF ⟨vn, rfl, hon, hx⟩; rw [← HE3.out] at hon; obtain ⟨A3, c3, rfl, hrn⟩ := own_sl hon; have HR3 := Lib.hid hrn; have HLF := Lib.hid (HLE.out.ext0 hx); have hmF := meta_keep (w0 := w0) HME.out (ofQ hx); have HMF := Lib.hid hmF; have qF0 := Blk.cell hmF 0; have qF1 := Blk.cell hmF 1; have qF2 := Blk.cell hmF 2; have qFf := hmF.frozen; clear hmF; clear hx hon hrn HLE HR2 HVI HME qE0 qE1 qE2 qEf)
      | (go_at_call 54; refine (putFr_any none 0 [] A3 c3 L3 _ (Row.nil _ _) HR3.out HBP.out (by simp only [List.length_nil]; omega)).mono ?_; rintro e wG ⟨vn, rfl, hon, hx⟩; rw [← HRB.out] at hon; obtain ⟨A4, c4, rfl, hrn⟩ := own_sl hon; have HR4 := Lib.hid hrn; have HLG := Lib.hid (Lw.addRow HLF.out hx hrn (fun ad e => by subst e; exact ⟨hon.blk _ rfl, Own.lt hon _ rfl⟩)); have hmG := meta_keep (w0 := w0) HMF.out (ofQ hx); have HMG := Lib.hid hmG; have qG0 := Blk.cell hmG 0; have qG1 := Blk.cell hmG 1; have qG2 := Blk.cell hmG 2; have qGf := hmG.frozen; clear hmG; clear hx hon hrn HLF HR3 HMF qF0 qF1 qF2 qFf)
      | (go_at_call 15; refine (lw_writeE HLG.out HC3.out A4 c4 HR4.out HBR.out (fun ad e _ => .inl ⟨_, List.mem_cons_self .., e⟩) (by omega) (by omega)).mono ?_; rintro e wI ⟨rfl, h3, hx⟩; have HLI := Lib.hid (h3.sub (rs' := GM gm) (fun _ h => List.mem_cons_of_mem _ h) (fun _ h => h)); have hmI := meta_keep (w0 := w0) HMG.out (hx.mono (fun k _ hk => ⟨hk.1, fun r hr => hk.2 r (List.mem_cons_of_mem _ hr)⟩)); have HMI := Lib.hid hmI; have qI0 := Blk.cell hmI 0; have qI1 := Blk.cell hmI 1; have qI2 := Blk.cell hmI 2; have qIf := hmI.frozen; clear hmI; clear h3 hx HLG HMG qG0 qG1 qG2 qGf HR4)
      | (go_at_call 25; refine (lw_syncE HLI.out HC4.out).mono ?_; rintro e wJ ⟨rfl, h3, hx⟩; have HLJ := Lib.hid h3; have hmJ := meta_keep (w0 := w0) HMI.out hx; have HMJ := Lib.hid hmJ; have qJ0 := Blk.cell hmJ 0; have qJ1 := Blk.cell hmJ 1; have qJ2 := Blk.cell hmJ 2; have qJf := hmJ.frozen; clear hmJ; have qJ3 := Blk.cell HMJ.out 3; have qJ4 := Blk.cell HMJ.out 4; clear h3 hx HLI HMI qI0 qI1 qI2 qIf))
    go_ret
    unfold SetP
    rw [HS.out]
    refine ⟨rfl, ?_, ?_⟩
    · exact Lw.setProt HLJ.out ⟨_, List.mem_cons_self .., rfl⟩ (((((Ext.refl (fun k => k = gm) _).setCell (p := ⟨gm, 1, none⟩) (Or.inl rfl) _).setCell (p := ⟨gm, 2, none⟩) (Or.inl rfl) _).setCell (p := ⟨gm, 3, none⟩) (Or.inl rfl) _).setCell (p := ⟨gm, 4, none⟩) (Or.inl rfl) _) HGW.out (fun r hr => .inl (by rw [List.mem_singleton.1 hr]))
    · exact ((((Blk.set HMJ.out 1 _).set 2 _).set 3 _).set 4 _)
set_option maxRecDepth 100000 in
set_option maxHeartbeats 8000000 in
theorem set_writeZ (w0 : World) (gm g : Nat) (D : DS) (file : Int) (r : Rec) (t v : Int) (w : World) (h : Lw w0 (GM gm) [] g D w) (hm : MetaB w gm g file r) (hgw : w0.heap.size ≤ gm) (hf : 0 ≤ file ∧ file ≤ 1) (ha : 0 ≤ r.age ∧ r.age < 1125899906842624) (ht : I64 t) (hv : I64 v) (hwl : D.wait.length ≤ 1000000) (may : mayB r.term r.vote t v = true) (hs : sizeF D (1 - file) = 0) (y3 : Int) (D3 : DS) (h3 : writeD D (1 - file) 0 (recB (r.age + 1) t v) = (y3, D3)) (e3 : y3 ≠ 0) : Calls Try.prog 20 #[.pointer (some ⟨gm, 0, none⟩), .int .i64 t, .int .i64 v] w (SetP w0 gm g (setM D ⟨file, r⟩ t v)) := by
  have hcl : clearD D (1 - file) = (0, D) := by unfold clearD; rw [if_neg (by omega)]
  have HS : Hid (setM D ⟨file, r⟩ t v = (y3, D3, ⟨file, r⟩)) := Lib.hid (by unfold setM; rw [if_pos may]; simp only [hcl]; rw [if_pos (by trivial)]; rw [h3]; rw [if_neg e3])
  obtain ⟨sz, hsz⟩ : ∃ sz, sz = sizeF D (1 - file) := ⟨_, rfl⟩
  have hszl : sz ≤ 1048576 := hsz ▸ size_len (Lw.is h) (1 - file)
  rw [← hsz] at hs
  have HSZ := Lib.hid hsz
  have b3 : (y3 != 0) = true := by simp [e3]
  clear hsz hcl  e3
  have c3 := Blk.cell hm 3
  have c4 := Blk.cell hm 4
  have HM := Lib.hid hm
  have HL := Lib.hid h
  have HMAY := Lib.hid may
  have HTI := Lib.hid ht
  have HVI := Lib.hid hv
  have HGW := Lib.hid hgw
  have HA0 := Lib.hid (show I64 (r.age + 1) by unfold I64; omega)
  obtain ⟨L1, hL1⟩ : ∃ L1, L1 = enc (r.age + 1) := ⟨_, rfl⟩
  obtain ⟨L2, hL2⟩ : ∃ L2, L2 = L1 ++ enc t := ⟨_, rfl⟩
  obtain ⟨L3, hL3⟩ : ∃ L3, L3 = L2 ++ enc v := ⟨_, rfl⟩
  obtain ⟨RB, hRB⟩ : ∃ RB, RB = recB (r.age + 1) t v := ⟨_, rfl⟩
  have hl1 : L1.length ≤ 10 := hL1 ▸ (enc_length _).2
  have hl2 : L2.length ≤ 20 := by rw [hL2, List.length_append]; have := (enc_length t).2; omega
  have hl3 : L3.length ≤ 30 := by rw [hL3, List.length_append]; have := (enc_length v).2; omega
  have hrb : RB.length ≤ 38 := hRB ▸ recB_len _ _ _
  have HE1 := Lib.hid hL1
  have HE2 := Lib.hid hL2
  have HE3 := Lib.hid hL3
  have HRB : Hid (RB = putF [] L3) := Lib.hid (by rw [hRB, hL3, hL2, hL1]; rfl)
  have HBP : Hid (Byt L3) := Lib.hid (by rw [hL3, hL2, hL1]; exact byt3 (show I64 (r.age + 1) by unfold I64; omega) ht hv)
  have HBR : Hid (Byt RB) := Lib.hid (hRB ▸ recB_byt (show I64 (r.age + 1) by unfold I64; omega) ht hv)
  rw [← hRB] at h3
  have HC3 := Lib.hid h3
  clear h3
  clear hL1 hL2 hL3 hRB
  clear h hm may ht hv
  go_enter Try.func20, Try.ntmps20
  go_wp2_with fail
  refine wp_region_mem [sv _, sv _, sv _, sv _, sv _, sv _, sv _, sv _, sv _, sv _, sv (.bool true), sv (.bool false)] (by kernel_rfl) rfl rfl rfl rfl ⟨
    (by
      intro Lq aq wq hd hj Kq hK
      rw [if_pos (wanted_none rfl)]
      have f0 := hj.base 0 rfl rfl
      exact opMove hK rfl (ev f0) rfl),
    (by
      intro Lq aq wq hd hj Kq hK
      rw [if_pos (wanted_none rfl)]
      have f13 := hj.val 0 13 rfl rfl (by simp) rfl (hd ⟨0, .data⟩ (by simp) rfl)
      exact opNil hK rfl (ev f13) rfl),
    (by
      intro Lq aq wq hd hj Kq hK
      rw [if_pos (wanted_none rfl)]
      have f14 := hj.val 1 14 rfl rfl (by simp) rfl (hd ⟨1, .data⟩ (by simp) rfl)
      exact opFieldA hK rfl (k := 3) (ev f14) (fun W => by kernel_rfl) rfl),
    (by
      intro Lq aq wq hd hj Kq hK
      rw [if_pos (wanted_none rfl)]
      have f15 := hj.val 2 15 rfl rfl (by simp) rfl (hd ⟨2, .data⟩ (by simp) rfl)
      first
        | exact opLoad hK rfl (ev f15) Try.underlying3 rfl (Ext.cell ((Ext.refl None_ w).drew.trans0 hj.ext) c3 (fun a => a)) rfl
        | exact opLoad hK rfl (ev f15) Try.underlying3 rfl (Ext.cell ((Ext.refl None_ w).drew.trans0 hj.ext) c4 (fun a => a)) rfl),
    (by
      intro Lq aq wq hd hj Kq hK
      rw [if_pos (wanted_none rfl)]
      have f0 := hj.base 0 rfl rfl
      exact opMove hK rfl (ev f0) rfl),
    (by
      intro Lq aq wq hd hj Kq hK
      rw [if_pos (wanted_none rfl)]
      have f17 := hj.val 4 17 rfl rfl (by simp) rfl (hd ⟨4, .data⟩ (by simp) rfl)
      exact opNil hK rfl (ev f17) rfl),
    (by
      intro Lq aq wq hd hj Kq hK
      rw [if_pos (wanted_none rfl)]
      have f18 := hj.val 5 18 rfl rfl (by simp) rfl (hd ⟨5, .data⟩ (by simp) rfl)
      exact opFieldA hK rfl (k := 4) (ev f18) (fun W => by kernel_rfl) rfl),
    (by
      intro Lq aq wq hd hj Kq hK
      rw [if_pos (wanted_none rfl)]
      have f19 := hj.val 6 19 rfl rfl (by simp) rfl (hd ⟨6, .data⟩ (by simp) rfl)
      first
        | exact opLoad hK rfl (ev f19) Try.underlying3 rfl (Ext.cell ((Ext.refl None_ w).drew.trans0 hj.ext) c3 (fun a => a)) rfl
        | exact opLoad hK rfl (ev f19) Try.underlying3 rfl (Ext.cell ((Ext.refl None_ w).drew.trans0 hj.ext) c4 (fun a => a)) rfl),
    (by
      intro Lq aq wq hd hj Kq hK
      rw [if_pos (wanted_none rfl)]
      have f1 := hj.base 1 rfl rfl
      exact opMove hK rfl (ev f1) rfl),
    (by
      intro Lq aq wq hd hj Kq hK
      rw [if_pos (wanted_none rfl)]
      have f2 := hj.base 2 rfl rfl
      exact opMove hK rfl (ev f2) rfl),
    (by
      intro Lq aq wq hd hj Kq hK
      rw [if_pos (wanted_none rfl)]
      have f16 := hj.val 3 16 rfl rfl (by simp) rfl (hd ⟨3, .data⟩ (by simp) rfl)
      have f20 := hj.val 7 20 rfl rfl (by simp) rfl (hd ⟨7, .data⟩ (by simp) rfl)
      have f21 := hj.val 8 21 rfl rfl (by simp) rfl (hd ⟨8, .data⟩ (by simp) rfl)
      have f22 := hj.val 9 22 rfl rfl (by simp) rfl (hd ⟨9, .data⟩ (by simp) rfl)
      exact opCall hK Try.func53 (by kernel_rfl) rfl (args := #[.int .i64 r.term, .int .i64 r.vote, .int .i64 t, .int .i64 v]) (by simp [ev f16, ev f20, ev f21, ev f22]) ((may_any r.term r.vote t v _).mono fun e w' ⟨h1, h2⟩ => ⟨_, h1, congrArg Value.bool HMAY.out, h2⟩)),
    (by
      intro Lq aq wq hd hj Kq hK
      rw [if_pos (wanted_none rfl)]
      have f23 := hj.val 10 23 rfl rfl (by simp) rfl (hd ⟨10, .data⟩ (by simp) rfl)
      exact opNot hK rfl (ev f23) rfl),
    trivial⟩ ?fin
  case fin =>
    intro vs w9 hx hg
    have v11 : vs 11 = _ := hg 11 (by decide)
    have X := Lib.hid ((Ext.refl None_ w).drew.trans0 hx)
    clear hx hg
    simp only [putAll, v11, Nat.reduceAdd, Nat.zero_add]
    simp only [Act.put, List.setIfInBounds_toArray, List.set_cons_succ, List.set_cons_zero]
    have hm9 : MetaB w9 gm g file r := Blk.ext HM.out X.out (fun a => a)
    have HL9 := Lib.hid (HL.out.ext0 X.out)
    have HM9 := Lib.hid hm9
    have q0 := Blk.cell hm9 0
    have q1 := Blk.cell hm9 1
    have q2 := Blk.cell hm9 2
    clear hm9 HL HM c3 c4
    go_wp2_with (first
      | (go_at_call 52; refine (is_size (Lw.is HL9.out) (1 - file)).mono ?_; rw [← HSZ.out]; rintro e wA ⟨rfl, hx⟩; have HLA := Lib.hid (HL9.out.ext0 hx); have hmA := meta_keep (w0 := w0) HM9.out (ofQ hx); have HMA := Lib.hid hmA; have qA0 := Blk.cell hmA 0; have qA1 := Blk.cell hmA 1; have qA2 := Blk.cell hmA 2; have qAf := hmA.frozen; clear hmA; clear hx HL9 q0 q1 q2 HM9)
      | (go_at_call 55; refine (wNum_any none 0 [] (r.age + 1) _ HA0.out (Row.nil _ _) (by simp)).mono ?_; rintro e wD ⟨vn, rfl, hon, hx⟩; rw [List.nil_append, ← HE1.out] at hon; obtain ⟨A1, c1, rfl, hrn⟩ := own_sl hon; have HR1 := Lib.hid hrn; have HLD := Lib.hid (HLA.out.ext0 hx); have hmD := meta_keep (w0 := w0) HMA.out (ofQ hx); have HMD := Lib.hid hmD; have qD0 := Blk.cell hmD 0; have qD1 := Blk.cell hmD 1; have qD2 := Blk.cell hmD 2; have qDf := hmD.frozen; clear hmD; clear hx hon hrn HLA HA0 HMA qA0 qA1 qA2 qAf)
      | (go_at_call 55; refine (wNum_any A1 c1 (L1) t _ HTI.out HR1.out (by omega)).mono ?_; rintro e wE ⟨vn, rfl, hon, hx⟩; rw [← HE2.out] at hon; obtain ⟨A2, c2, rfl, hrn⟩ := own_sl hon; have HR2 := Lib.hid hrn; have HLE := Lib.hid (HLD.out.ext0 hx); have hmE := meta_keep (w0 := w0) HMD.out (ofQ hx); have HME := Lib.hid hmE; have qE0 := Blk.cell hmE 0; have qE1 := Blk.cell hmE 1; have qE2 := Blk.cell hmE 2; have qEf := hmE.frozen; clear hmE; clear hx hon hrn HLD HR1 HTI HMD qD0 qD1 qD2 qDf)
      | (go_at_call 55; refine (wNum_any A2 c2 (L2) v _ HVI.out HR2.out (by omega)).mono ?_; rintro e wF ⟨vn, rfl, hon, hx⟩; rw [← HE3.out] at hon; obtain ⟨A3, c3, rfl, hrn⟩ := own_sl hon; have HR3 := Lib.hid hrn; have HLF := Lib.hid (HLE.out.ext0 hx); have hmF := meta_keep (w0 := w0) HME.out (ofQ hx); have HMF := Lib.hid hmF; have qF0 := Blk.cell hmF 0; have qF1 := Blk.cell hmF 1; have qF2 := Blk.cell hmF 2; have qFf := hmF.frozen; clear hmF; clear hx hon hrn HLE HR2 HVI HME qE0 qE1 qE2 qEf)
      | (go_at_call 54; refine (putFr_any none 0 [] A3 c3 L3 _ (Row.nil _ _) HR3.out HBP.out (by simp only [List.length_nil]; omega)).mono ?_; rintro e wG ⟨vn, rfl, hon, hx⟩; rw [← HRB.out] at hon; obtain ⟨A4, c4, rfl, hrn⟩ := own_sl hon; have HR4 := Lib.hid hrn; have HLG := Lib.hid (Lw.addRow HLF.out hx hrn (fun ad e => by subst e; exact ⟨hon.blk _ rfl, Own.lt hon _ rfl⟩)); have hmG := meta_keep (w0 := w0) HMF.out (ofQ hx); have HMG := Lib.hid hmG; have qG0 := Blk.cell hmG 0; have qG1 := Blk.cell hmG 1; have qG2 := Blk.cell hmG 2; have qGf := hmG.frozen; clear hmG; clear hx hon hrn HLF HR3 HMF qF0 qF1 qF2 qFf)
      | (go_at_call 15; refine (lw_writeE HLG.out HC3.out A4 c4 HR4.out HBR.out (fun ad e _ => .inl ⟨_, List.mem_cons_self .., e⟩) (by omega) (by omega)).mono ?_; rintro e wI ⟨rfl, h3, hx⟩; have HLI := Lib.hid (h3.sub (rs' := GM gm) (fun _ h => List.mem_cons_of_mem _ h) (fun _ h => h)); have hmI := meta_keep (w0 := w0) HMG.out (hx.mono (fun k _ hk => ⟨hk.1, fun r hr => hk.2 r (List.mem_cons_of_mem _ hr)⟩)); have HMI := Lib.hid hmI; have qI0 := Blk.cell hmI 0; have qI1 := Blk.cell hmI 1; have qI2 := Blk.cell hmI 2; have qIf := hmI.frozen; clear hmI; clear h3 hx HLG HMG qG0 qG1 qG2 qGf HR4))
    go_ret
    unfold SetP
    rw [HS.out]
    exact ⟨rfl, HLI.out, HMI.out⟩
set_option maxRecDepth 100000 in
set_option maxHeartbeats 8000000 in
theorem set_sync2Z (w0 : World) (gm g : Nat) (D : DS) (file : Int) (r : Rec) (t v : Int) (w : World) (h : Lw w0 (GM gm) [] g D w) (hm : MetaB w gm g file r) (hgw : w0.heap.size ≤ gm) (hf : 0 ≤ file ∧ file ≤ 1) (ha : 0 ≤ r.age ∧ r.age < 1125899906842624) (ht : I64 t) (hv : I64 v) (hwl : D.wait.length ≤ 1000000) (may : mayB r.term r.vote t v = true) (hs : sizeF D (1 - file) = 0) (y3 : Int) (D3 : DS) (h3 : writeD D (1 - file) 0 (recB (r.age + 1) t v) = (y3, D3)) (e3 : y3 = 0) (y4 : Int) (D4 : DS) (h4 : syncD D3 = (y4, D4)) (e4 : y4 ≠ 0) : Calls Try.prog 20 #[.pointer (some ⟨gm, 0, none⟩), .int .i64 t, .int .i64 v] w (SetP w0 gm g (setM D ⟨file, r⟩ t v)) := by
  have hcl : clearD D (1 - file) = (0, D) := by unfold clearD; rw [if_neg (by omega)]
  have HS : Hid (setM D ⟨file, r⟩ t v = (y4, D4, ⟨file, r⟩)) := Lib.hid (by unfold setM; rw [if_pos may]; simp only [hcl]; rw [if_pos (by trivial)]; rw [h3]; rw [if_pos e3, h4]; rw [if_neg e4])
  obtain ⟨sz, hsz⟩ : ∃ sz, sz = sizeF D (1 - file) := ⟨_, rfl⟩
  have hszl : sz ≤ 1048576 := hsz ▸ size_len (Lw.is h) (1 - file)
  rw [← hsz] at hs
  have HSZ := Lib.hid hsz
  have HC4 := Lib.hid h4
  subst e3
  have b4 : (y4 != 0) = true := by simp [e4]
  clear hsz hcl h4 e4
  have c3 := Blk.cell hm 3
  have c4 := Blk.cell hm 4
  have HM := Lib.hid hm
  have HL := Lib.hid h
  have HMAY := Lib.hid may
  have HTI := Lib.hid ht
  have HVI := Lib.hid hv
  have HGW := Lib.hid hgw
  have HA0 := Lib.hid (show I64 (r.age + 1) by unfold I64; omega)
  obtain ⟨L1, hL1⟩ : ∃ L1, L1 = enc (r.age + 1) := ⟨_, rfl⟩
  obtain ⟨L2, hL2⟩ : ∃ L2, L2 = L1 ++ enc t := ⟨_, rfl⟩
  obtain ⟨L3, hL3⟩ : ∃ L3, L3 = L2 ++ enc v := ⟨_, rfl⟩
  obtain ⟨RB, hRB⟩ : ∃ RB, RB = recB (r.age + 1) t v := ⟨_, rfl⟩
  have hl1 : L1.length ≤ 10 := hL1 ▸ (enc_length _).2
  have hl2 : L2.length ≤ 20 := by rw [hL2, List.length_append]; have := (enc_length t).2; omega
  have hl3 : L3.length ≤ 30 := by rw [hL3, List.length_append]; have := (enc_length v).2; omega
  have hrb : RB.length ≤ 38 := hRB ▸ recB_len _ _ _
  have HE1 := Lib.hid hL1
  have HE2 := Lib.hid hL2
  have HE3 := Lib.hid hL3
  have HRB : Hid (RB = putF [] L3) := Lib.hid (by rw [hRB, hL3, hL2, hL1]; rfl)
  have HBP : Hid (Byt L3) := Lib.hid (by rw [hL3, hL2, hL1]; exact byt3 (show I64 (r.age + 1) by unfold I64; omega) ht hv)
  have HBR : Hid (Byt RB) := Lib.hid (hRB ▸ recB_byt (show I64 (r.age + 1) by unfold I64; omega) ht hv)
  rw [← hRB] at h3
  have HC3 := Lib.hid h3
  clear h3
  clear hL1 hL2 hL3 hRB
  clear h hm may ht hv
  go_enter Try.func20, Try.ntmps20
  go_wp2_with fail
  refine wp_region_mem [sv _, sv _, sv _, sv _, sv _, sv _, sv _, sv _, sv _, sv _, sv (.bool true), sv (.bool false)] (by kernel_rfl) rfl rfl rfl rfl ⟨
    (by
      intro Lq aq wq hd hj Kq hK
      rw [if_pos (wanted_none rfl)]
      have f0 := hj.base 0 rfl rfl
      exact opMove hK rfl (ev f0) rfl),
    (by
      intro Lq aq wq hd hj Kq hK
      rw [if_pos (wanted_none rfl)]
      have f13 := hj.val 0 13 rfl rfl (by simp) rfl (hd ⟨0, .data⟩ (by simp) rfl)
      exact opNil hK rfl (ev f13) rfl),
    (by
      intro Lq aq wq hd hj Kq hK
      rw [if_pos (wanted_none rfl)]
      have f14 := hj.val 1 14 rfl rfl (by simp) rfl (hd ⟨1, .data⟩ (by simp) rfl)
      exact opFieldA hK rfl (k := 3) (ev f14) (fun W => by kernel_rfl) rfl),
    (by
      intro Lq aq wq hd hj Kq hK
      rw [if_pos (wanted_none rfl)]
      have f15 := hj.val 2 15 rfl rfl (by simp) rfl (hd ⟨2, .data⟩ (by simp) rfl)
      first
        | exact opLoad hK rfl (ev f15) Try.underlying3 rfl (Ext.cell ((Ext.refl None_ w).drew.trans0 hj.ext) c3 (fun a => a)) rfl
        | exact opLoad hK rfl (ev f15) Try.underlying3 rfl (Ext.cell ((Ext.refl None_ w).drew.trans0 hj.ext) c4 (fun a => a)) rfl),
    (by
      intro Lq aq wq hd hj Kq hK
      rw [if_pos (wanted_none rfl)]
      have f0 := hj.base 0 rfl rfl
      exact opMove hK rfl (ev f0) rfl),
    (by
      intro Lq aq wq hd hj Kq hK
      rw [if_pos (wanted_none rfl)]
      have f17 := hj.val 4 17 rfl rfl (by simp) rfl (hd ⟨4, .data⟩ (by simp) rfl)
      exact opNil hK rfl (ev f17) rfl),
    (by
      intro Lq aq wq hd hj Kq hK
      rw [if_pos (wanted_none rfl)]
      have f18 := hj.val 5 18 rfl rfl (by simp) rfl (hd ⟨5, .data⟩ (by simp) rfl)
      exact opFieldA hK rfl (k := 4) (ev f18) (fun W => by kernel_rfl) rfl),
    (by
      intro Lq aq wq hd hj Kq hK
      rw [if_pos (wanted_none rfl)]
      have f19 := hj.val 6 19 rfl rfl (by simp) rfl (hd ⟨6, .data⟩ (by simp) rfl)
      first
        | exact opLoad hK rfl (ev f19) Try.underlying3 rfl (Ext.cell ((Ext.refl None_ w).drew.trans0 hj.ext) c3 (fun a => a)) rfl
        | exact opLoad hK rfl (ev f19) Try.underlying3 rfl (Ext.cell ((Ext.refl None_ w).drew.trans0 hj.ext) c4 (fun a => a)) rfl),
    (by
      intro Lq aq wq hd hj Kq hK
      rw [if_pos (wanted_none rfl)]
      have f1 := hj.base 1 rfl rfl
      exact opMove hK rfl (ev f1) rfl),
    (by
      intro Lq aq wq hd hj Kq hK
      rw [if_pos (wanted_none rfl)]
      have f2 := hj.base 2 rfl rfl
      exact opMove hK rfl (ev f2) rfl),
    (by
      intro Lq aq wq hd hj Kq hK
      rw [if_pos (wanted_none rfl)]
      have f16 := hj.val 3 16 rfl rfl (by simp) rfl (hd ⟨3, .data⟩ (by simp) rfl)
      have f20 := hj.val 7 20 rfl rfl (by simp) rfl (hd ⟨7, .data⟩ (by simp) rfl)
      have f21 := hj.val 8 21 rfl rfl (by simp) rfl (hd ⟨8, .data⟩ (by simp) rfl)
      have f22 := hj.val 9 22 rfl rfl (by simp) rfl (hd ⟨9, .data⟩ (by simp) rfl)
      exact opCall hK Try.func53 (by kernel_rfl) rfl (args := #[.int .i64 r.term, .int .i64 r.vote, .int .i64 t, .int .i64 v]) (by simp [ev f16, ev f20, ev f21, ev f22]) ((may_any r.term r.vote t v _).mono fun e w' ⟨h1, h2⟩ => ⟨_, h1, congrArg Value.bool HMAY.out, h2⟩)),
    (by
      intro Lq aq wq hd hj Kq hK
      rw [if_pos (wanted_none rfl)]
      have f23 := hj.val 10 23 rfl rfl (by simp) rfl (hd ⟨10, .data⟩ (by simp) rfl)
      exact opNot hK rfl (ev f23) rfl),
    trivial⟩ ?fin
  case fin =>
    intro vs w9 hx hg
    have v11 : vs 11 = _ := hg 11 (by decide)
    have X := Lib.hid ((Ext.refl None_ w).drew.trans0 hx)
    clear hx hg
    simp only [putAll, v11, Nat.reduceAdd, Nat.zero_add]
    simp only [Act.put, List.setIfInBounds_toArray, List.set_cons_succ, List.set_cons_zero]
    have hm9 : MetaB w9 gm g file r := Blk.ext HM.out X.out (fun a => a)
    have HL9 := Lib.hid (HL.out.ext0 X.out)
    have HM9 := Lib.hid hm9
    have q0 := Blk.cell hm9 0
    have q1 := Blk.cell hm9 1
    have q2 := Blk.cell hm9 2
    clear hm9 HL HM c3 c4
    go_wp2_with (first
      | (go_at_call 52; refine (is_size (Lw.is HL9.out) (1 - file)).mono ?_; rw [← HSZ.out]; rintro e wA ⟨rfl, hx⟩; have HLA := Lib.hid (HL9.out.ext0 hx); have hmA := meta_keep (w0 := w0) HM9.out (ofQ hx); have HMA := Lib.hid hmA; have qA0 := Blk.cell hmA 0; have qA1 := Blk.cell hmA 1; have qA2 := Blk.cell hmA 2; have qAf := hmA.frozen; clear hmA; clear hx HL9 q0 q1 q2 HM9)
      | (go_at_call 55; refine (wNum_any none 0 [] (r.age + 1) _ HA0.out (Row.nil _ _) (by simp)).mono ?_; rintro e wD ⟨vn, rfl, hon, hx⟩; rw [List.nil_append, ← HE1.out] at hon; obtain ⟨A1, c1, rfl, hrn⟩ := own_sl hon; have HR1 := Lib.hid hrn; have HLD := Lib.hid (HLA.out.ext0 hx); have hmD := meta_keep (w0 := w0) HMA.out (ofQ hx); have HMD := Lib.hid hmD; have qD0 := Blk.cell hmD 0; have qD1 := Blk.cell hmD 1; have qD2 := Blk.cell hmD 2; have qDf := hmD.frozen; clear hmD; clear hx hon hrn HLA HA0 HMA qA0 qA1 qA2 qAf)
      | (go_at_call 55; refine (wNum_any A1 c1 (L1) t _ HTI.out HR1.out (by omega)).mono ?_; rintro e wE ⟨vn, rfl, hon, hx⟩; rw [← HE2.out] at hon; obtain ⟨A2, c2, rfl, hrn⟩ := own_sl hon; have HR2 := Lib.hid hrn; have HLE := Lib.hid (HLD.out.ext0 hx); have hmE := meta_keep (w0 := w0) HMD.out (ofQ hx); have HME := Lib.hid hmE; have qE0 := Blk.cell hmE 0; have qE1 := Blk.cell hmE 1; have qE2 := Blk.cell hmE 2; have qEf := hmE.frozen; clear hmE; clear hx hon hrn HLD HR1 HTI HMD qD0 qD1 qD2 qDf)
      | (go_at_call 55; refine (wNum_any A2 c2 (L2) v _ HVI.out HR2.out (by omega)).mono ?_; rintro e wF ⟨vn, rfl, hon, hx⟩; rw [← HE3.out] at hon; obtain ⟨A3, c3, rfl, hrn⟩ := own_sl hon; have HR3 := Lib.hid hrn; have HLF := Lib.hid (HLE.out.ext0 hx); have hmF := meta_keep (w0 := w0) HME.out (ofQ hx); have HMF := Lib.hid hmF; have qF0 := Blk.cell hmF 0; have qF1 := Blk.cell hmF 1; have qF2 := Blk.cell hmF 2; have qFf := hmF.frozen; clear hmF; clear hx hon hrn HLE HR2 HVI HME qE0 qE1 qE2 qEf)
      | (go_at_call 54; refine (putFr_any none 0 [] A3 c3 L3 _ (Row.nil _ _) HR3.out HBP.out (by simp only [List.length_nil]; omega)).mono ?_; rintro e wG ⟨vn, rfl, hon, hx⟩; rw [← HRB.out] at hon; obtain ⟨A4, c4, rfl, hrn⟩ := own_sl hon; have HR4 := Lib.hid hrn; have HLG := Lib.hid (Lw.addRow HLF.out hx hrn (fun ad e => by subst e; exact ⟨hon.blk _ rfl, Own.lt hon _ rfl⟩)); have hmG := meta_keep (w0 := w0) HMF.out (ofQ hx); have HMG := Lib.hid hmG; have qG0 := Blk.cell hmG 0; have qG1 := Blk.cell hmG 1; have qG2 := Blk.cell hmG 2; have qGf := hmG.frozen; clear hmG; clear hx hon hrn HLF HR3 HMF qF0 qF1 qF2 qFf)
      | (go_at_call 15; refine (lw_writeE HLG.out HC3.out A4 c4 HR4.out HBR.out (fun ad e _ => .inl ⟨_, List.mem_cons_self .., e⟩) (by omega) (by omega)).mono ?_; rintro e wI ⟨rfl, h3, hx⟩; have HLI := Lib.hid (h3.sub (rs' := GM gm) (fun _ h => List.mem_cons_of_mem _ h) (fun _ h => h)); have hmI := meta_keep (w0 := w0) HMG.out (hx.mono (fun k _ hk => ⟨hk.1, fun r hr => hk.2 r (List.mem_cons_of_mem _ hr)⟩)); have HMI := Lib.hid hmI; have qI0 := Blk.cell hmI 0; have qI1 := Blk.cell hmI 1; have qI2 := Blk.cell hmI 2; have qIf := hmI.frozen; clear hmI; clear h3 hx HLG HMG qG0 qG1 qG2 qGf HR4)
      | (go_at_call 25; refine (lw_syncE HLI.out HC4.out).mono ?_; rintro e wJ ⟨rfl, h3, hx⟩; have HLJ := Lib.hid h3; have hmJ := meta_keep (w0 := w0) HMI.out hx; have HMJ := Lib.hid hmJ; have qJ0 := Blk.cell hmJ 0; have qJ1 := Blk.cell hmJ 1; have qJ2 := Blk.cell hmJ 2; have qJf := hmJ.frozen; clear hmJ; have qJ3 := Blk.cell HMJ.out 3; have qJ4 := Blk.cell HMJ.out 4; clear h3 hx HLI HMI qI0 qI1 qI2 qIf))
    go_ret
    unfold SetP
    rw [HS.out]
    exact ⟨rfl, HLJ.out, HMJ.out⟩
set_option maxRecDepth 100000 in
set_option maxHeartbeats 8000000 in
theorem set_okZ (w0 : World) (gm g : Nat) (D : DS) (file : Int) (r : Rec) (t v : Int) (w : World) (h : Lw w0 (GM gm) [] g D w) (hm : MetaB w gm g file r) (hgw : w0.heap.size ≤ gm) (hf : 0 ≤ file ∧ file ≤ 1) (ha : 0 ≤ r.age ∧ r.age < 1125899906842624) (ht : I64 t) (hv : I64 v) (hwl : D.wait.length ≤ 1000000) (may : mayB r.term r.vote t v = true) (hs : sizeF D (1 - file) = 0) (y3 : Int) (D3 : DS) (h3 : writeD D (1 - file) 0 (recB (r.age + 1) t v) = (y3, D3)) (e3 : y3 = 0) (y4 : Int) (D4 : DS) (h4 : syncD D3 = (y4, D4)) (e4 : y4 = 0) : Calls Try.prog 20 #[.pointer (some ⟨gm, 0, none⟩), .int .i64 t, .int .i64 v] w (SetP w0 gm g (setM D ⟨file, r⟩ t v)) := by
  have hcl : clearD D (1 - file) = (0, D) := by unfold clearD; rw [if_neg (by omega)]
  have HS : Hid (setM D ⟨file, r⟩ t v = (0, D4, ⟨1 - file, ⟨r.age + 1, t, v⟩⟩)) := Lib.hid (by unfold setM; rw [if_pos may]; simp only [hcl]; rw [if_pos (by trivial)]; rw [h3]; rw [if_pos e3, h4]; rw [if_pos e4])
  obtain ⟨sz, hsz⟩ : ∃ sz, sz = sizeF D (1 - file) := ⟨_, rfl⟩
  have hszl : sz ≤ 1048576 := hsz ▸ size_len (Lw.is h) (1 - file)
  rw [← hsz] at hs
  have HSZ := Lib.hid hsz
  have HC4 := Lib.hid h4
  subst e3
  subst e4
  clear hsz hcl h4
  have c3 := Blk.cell hm 3
  have c4 := Blk.cell hm 4
  have HM := Lib.hid hm
  have HL := Lib.hid h
  have HMAY := Lib.hid may
  have HTI := Lib.hid ht
  have HVI := Lib.hid hv
  have HGW := Lib.hid hgw
  have HA0 := Lib.hid (show I64 (r.age + 1) by unfold I64; omega)
  obtain ⟨L1, hL1⟩ : ∃ L1, L1 = enc (r.age + 1) := ⟨_, rfl⟩
  obtain ⟨L2, hL2⟩ : ∃ L2, L2 = L1 ++ enc t := ⟨_, rfl⟩
  obtain ⟨L3, hL3⟩ : ∃ L3, L3 = L2 ++ enc v := ⟨_, rfl⟩
  obtain ⟨RB, hRB⟩ : ∃ RB, RB = recB (r.age + 1) t v := ⟨_, rfl⟩
  have hl1 : L1.length ≤ 10 := hL1 ▸ (enc_length _).2
  have hl2 : L2.length ≤ 20 := by rw [hL2, List.length_append]; have := (enc_length t).2; omega
  have hl3 : L3.length ≤ 30 := by rw [hL3, List.length_append]; have := (enc_length v).2; omega
  have hrb : RB.length ≤ 38 := hRB ▸ recB_len _ _ _
  have HE1 := Lib.hid hL1
  have HE2 := Lib.hid hL2
  have HE3 := Lib.hid hL3
  have HRB : Hid (RB = putF [] L3) := Lib.hid (by rw [hRB, hL3, hL2, hL1]; rfl)
  have HBP : Hid (Byt L3) := Lib.hid (by rw [hL3, hL2, hL1]; exact byt3 (show I64 (r.age + 1) by unfold I64; omega) ht hv)
  have HBR : Hid (Byt RB) := Lib.hid (hRB ▸ recB_byt (show I64 (r.age + 1) by unfold I64; omega) ht hv)
  rw [← hRB] at h3
  have HC3 := Lib.hid h3
  clear h3
  clear hL1 hL2 hL3 hRB
  clear h hm may ht hv
  go_enter Try.func20, Try.ntmps20
  go_wp2_with fail
  refine wp_region_mem [sv _, sv _, sv _, sv _, sv _, sv _, sv _, sv _, sv _, sv _, sv (.bool true), sv (.bool false)] (by kernel_rfl) rfl rfl rfl rfl ⟨
    (by
      intro Lq aq wq hd hj Kq hK
      rw [if_pos (wanted_none rfl)]
      have f0 := hj.base 0 rfl rfl
      exact opMove hK rfl (ev f0) rfl),
    (by
      intro Lq aq wq hd hj Kq hK
      rw [if_pos (wanted_none rfl)]
      have f13 := hj.val 0 13 rfl rfl (by simp) rfl (hd ⟨0, .data⟩ (by simp) rfl)
      exact opNil hK rfl (ev f13) rfl),
    (by
      intro Lq aq wq hd hj Kq hK
      rw [if_pos (wanted_none rfl)]
      have f14 := hj.val 1 14 rfl rfl (by simp) rfl (hd ⟨1, .data⟩ (by simp) rfl)
      exact opFieldA hK rfl (k := 3) (ev f14) (fun W => by kernel_rfl) rfl),
    (by
      intro Lq aq wq hd hj Kq hK
      rw [if_pos (wanted_none rfl)]
      have f15 := hj.val 2 15 rfl rfl (by simp) rfl (hd ⟨2, .data⟩ (by simp) rfl)
      first
        | exact opLoad hK rfl (ev f15) Try.underlying3 rfl (Ext.cell ((Ext.refl None_ w).drew.trans0 hj.ext) c3 (fun a => a)) rfl
        | exact opLoad hK rfl (ev f15) Try.underlying3 rfl (Ext.cell ((Ext.refl None_ w).drew.trans0 hj.ext) c4 (fun a => a)) rfl),
    (by
      intro Lq aq wq hd hj Kq hK
      rw [if_pos (wanted_none rfl)]
      have f0 := hj.base 0 rfl rfl
      exact opMove hK rfl (ev f0) rfl),
    (by
      intro Lq aq wq hd hj Kq hK
      rw [if_pos (wanted_none rfl)]
      have f17 := hj.val 4 17 rfl rfl (by simp) rfl (hd ⟨4, .data⟩ (by simp) rfl)
      exact opNil hK rfl (ev f17) rfl),
    (by
      intro Lq aq wq hd hj Kq hK
      rw [if_pos (wanted_none rfl)]
      have f18 := hj.val 5 18 rfl rfl (by simp) rfl (hd ⟨5, .data⟩ (by simp) rfl)
      exact opFieldA hK rfl (k := 4) (ev f18) (fun W => by kernel_rfl) rfl),
    (by
      intro Lq aq wq hd hj Kq hK
      rw [if_pos (wanted_none rfl)]
      have f19 := hj.val 6 19 rfl rfl (by simp) rfl (hd ⟨6, .data⟩ (by simp) rfl)
      first
        | exact opLoad hK rfl (ev f19) Try.underlying3 rfl (Ext.cell ((Ext.refl None_ w).drew.trans0 hj.ext) c3 (fun a => a)) rfl
        | exact opLoad hK rfl (ev f19) Try.underlying3 rfl (Ext.cell ((Ext.refl None_ w).drew.trans0 hj.ext) c4 (fun a => a)) rfl),
    (by
      intro Lq aq wq hd hj Kq hK
      rw [if_pos (wanted_none rfl)]
      have f1 := hj.base 1 rfl rfl
      exact opMove hK rfl (ev f1) rfl),
    (by
      intro Lq aq wq hd hj Kq hK
      rw [if_pos (wanted_none rfl)]
      have f2 := hj.base 2 rfl rfl
      exact opMove hK rfl (ev f2) rfl),
    (by
      intro Lq aq wq hd hj Kq hK
      rw [if_pos (wanted_none rfl)]
      have f16 := hj.val 3 16 rfl rfl (by simp) rfl (hd ⟨3, .data⟩ (by simp) rfl)
      have f20 := hj.val 7 20 rfl rfl (by simp) rfl (hd ⟨7, .data⟩ (by simp) rfl)
      have f21 := hj.val 8 21 rfl rfl (by simp) rfl (hd ⟨8, .data⟩ (by simp) rfl)
      have f22 := hj.val 9 22 rfl rfl (by simp) rfl (hd ⟨9, .data⟩ (by simp) rfl)
      exact opCall hK Try.func53 (by kernel_rfl) rfl (args := #[.int .i64 r.term, .int .i64 r.vote, .int .i64 t, .int .i64 v]) (by simp [ev f16, ev f20, ev f21, ev f22]) ((may_any r.term r.vote t v _).mono fun e w' ⟨h1, h2⟩ => ⟨_, h1, congrArg Value.bool HMAY.out, h2⟩)),
    (by
      intro Lq aq wq hd hj Kq hK
      rw [if_pos (wanted_none rfl)]
      have f23 := hj.val 10 23 rfl rfl (by simp) rfl (hd ⟨10, .data⟩ (by simp) rfl)
      exact opNot hK rfl (ev f23) rfl),
    trivial⟩ ?fin
  case fin =>
    intro vs w9 hx hg
    have v11 : vs 11 = _ := hg 11 (by decide)
    have X := Lib.hid ((Ext.refl None_ w).drew.trans0 hx)
    clear hx hg
    simp only [putAll, v11, Nat.reduceAdd, Nat.zero_add]
    simp only [Act.put, List.setIfInBounds_toArray, List.set_cons_succ, List.set_cons_zero]
    have hm9 : MetaB w9 gm g file r := Blk.ext HM.out X.out (fun a => a)
    have HL9 := Lib.hid (HL.out.ext0 X.out)
    have HM9 := Lib.hid hm9
    have q0 := Blk.cell hm9 0
    have q1 := Blk.cell hm9 1
    have q2 := Blk.cell hm9 2
    clear hm9 HL HM c3 c4
    go_wp2_with (first
      | (go_at_call 52; refine (is_size (Lw.is HL9.out) (1 - file)).mono ?_; rw [← HSZ.out]; rintro e wA ⟨rfl, hx⟩; have HLA := Lib.hid (HL9.out.ext0 hx); have hmA := meta_keep (w0 := w0) HM9.out (ofQ hx); have HMA := Lib.hid hmA; have qA0 := Blk.cell hmA 0; have qA1 := Blk.cell hmA 1; have qA2 := Blk.cell hmA 2; have qAf := hmA.frozen; clear hmA; clear hx HL9 q0 q1 q2 HM9)
      | (go_at_call 55; refine (wNum_any none 0 [] (r.age + 1) _ HA0.out (Row.nil _ _) (by simp)).mono ?_; rintro e wD ⟨vn, rfl, hon, hx⟩; rw [List.nil_append, ← HE1.out] at hon; obtain ⟨A1, c1, rfl, hrn⟩ := own_sl hon; have HR1 := Lib.hid hrn; have HLD := Lib.hid (HLA.out.ext0 hx); have hmD := meta_keep (w0 := w0) HMA.out (ofQ hx); have HMD := Lib.hid hmD; have qD0 := Blk.cell hmD 0; have qD1 := Blk.cell hmD 1; have qD2 := Blk.cell hmD 2; have qDf := hmD.frozen; clear hmD; clear hx hon hrn HLA HA0 HMA qA0 qA1 qA2 qAf)
      | (go_at_call 55; refine (wNum_any A1 c1 (L1) t _ HTI.out HR1.out (by omega)).mono ?_; rintro e wE ⟨vn, rfl, hon, hx⟩; rw [← HE2.out] at hon; obtain ⟨A2, c2, rfl, hrn⟩ := own_sl hon; have HR2 := Lib.hid hrn; have HLE := Lib.hid (HLD.out.ext0 hx); have hmE := meta_keep (w0 := w0) HMD.out (ofQ hx); have HME := Lib.hid hmE; have qE0 := Blk.cell hmE 0; have qE1 := Blk.cell hmE 1; have qE2 := Blk.cell hmE 2; have qEf := hmE.frozen; clear hmE; clear hx hon hrn HLD HR1 HTI HMD qD0 qD1 qD2 qDf)
      | (go_at_call 55; refine (wNum_any A2 c2 (L2) v _ HVI.out HR2.out (by omega)).mono ?_; rintro e wF ⟨vn, rfl, hon, hx⟩; rw [← HE3.out] at hon; obtain ⟨A3, c3, rfl, hrn⟩ := own_sl hon; have HR3 := Lib.hid hrn; have HLF := Lib.hid (HLE.out.ext0 hx); have hmF := meta_keep (w0 := w0) HME.out (ofQ hx); have HMF := Lib.hid hmF; have qF0 := Blk.cell hmF 0; have qF1 := Blk.cell hmF 1; have qF2 := Blk.cell hmF 2; have qFf := hmF.frozen; clear hmF; clear hx hon hrn HLE HR2 HVI HME qE0 qE1 qE2 qEf)
      | (go_at_call 54; refine (putFr_any none 0 [] A3 c3 L3 _ (Row.nil _ _) HR3.out HBP.out (by simp only [List.length_nil]; omega)).mono ?_; rintro e wG ⟨vn, rfl, hon, hx⟩; rw [← HRB.out] at hon; obtain ⟨A4, c4, rfl, hrn⟩ := own_sl hon; have HR4 := Lib.hid hrn; have HLG := Lib.hid (Lw.addRow HLF.out hx hrn (fun ad e => by subst e; exact ⟨hon.blk _ rfl, Own.lt hon _ rfl⟩)); have hmG := meta_keep (w0 := w0) HMF.out (ofQ hx); have HMG := Lib.hid hmG; have qG0 := Blk.cell hmG 0; have qG1 := Blk.cell hmG 1; have qG2 := Blk.cell hmG 2; have qGf := hmG.frozen; clear hmG; clear hx hon hrn HLF HR3 HMF qF0 qF1 qF2 qFf)
      | (go_at_call 15; refine (lw_writeE HLG.out HC3.out A4 c4 HR4.out HBR.out (fun ad e _ => .inl ⟨_, List.mem_cons_self .., e⟩) (by omega) (by omega)).mono ?_; rintro e wI ⟨rfl, h3, hx⟩; have HLI := Lib.hid (h3.sub (rs' := GM gm) (fun _ h => List.mem_cons_of_mem _ h) (fun _ h => h)); have hmI := meta_keep (w0 := w0) HMG.out (hx.mono (fun k _ hk => ⟨hk.1, fun r hr => hk.2 r (List.mem_cons_of_mem _ hr)⟩)); have HMI := Lib.hid hmI; have qI0 := Blk.cell hmI 0; have qI1 := Blk.cell hmI 1; have qI2 := Blk.cell hmI 2; have qIf := hmI.frozen; clear hmI; clear h3 hx HLG HMG qG0 qG1 qG2 qGf HR4)
      | (go_at_call 25; refine (lw_syncE HLI.out HC4.out).mono ?_; rintro e wJ ⟨rfl, h3, hx⟩; have HLJ := Lib.hid h3; have hmJ := meta_keep (w0 := w0) HMI.out hx; have HMJ := Lib.hid hmJ; have qJ0 := Blk.cell hmJ 0; have qJ1 := Blk.cell hmJ 1; have qJ2 := Blk.cell hmJ 2; have qJf := hmJ.frozen; clear hmJ; have qJ3 := Blk.cell HMJ.out 3; have qJ4 := Blk.cell HMJ.out 4; clear h3 hx HLI HMI qI0 qI1 qI2 qIf))
    go_ret
    unfold SetP
    rw [HS.out]
    refine ⟨rfl, ?_, ?_⟩
    · exact Lw.setProt HLJ.out ⟨_, List.mem_cons_self .., rfl⟩ (((((Ext.refl (fun k => k = gm) _).setCell (p := ⟨gm, 1, none⟩) (Or.inl rfl) _).setCell (p := ⟨gm, 2, none⟩) (Or.inl rfl) _).setCell (p := ⟨gm, 3, none⟩) (Or.inl rfl) _).setCell (p := ⟨gm, 4, none⟩) (Or.inl rfl) _) HGW.out (fun r hr => .inl (by rw [List.mem_singleton.1 hr]))
    · exact ((((Blk.set HMJ.out 1 _).set 2 _).set 3 _).set 4 _)
end Go.Proofs.Ytakcdmmniaipeaa
