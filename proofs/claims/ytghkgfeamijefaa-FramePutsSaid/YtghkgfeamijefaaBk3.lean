/- The book, walked: Keep. Written by gen_bk.py. -/
import Derived.Test.YtghkgfeamijefaaBk2
import Derived.Great.BuildSlice
set_option linter.unusedVariables false
set_option linter.unusedSimpArgs false
namespace Go.Proofs.Ytghkgfeamijefaa
open Go.RowKit B
theorem book_slice (A : Option Addr) (n c : Nat) (W : World) : (Instr.buildSlice 59 1 #[(0, .slice A n c)]).run Try.prog W = .ok (.slice (some ⟨W.heap.size, 0, none⟩) 1 1) (W.alloc (.cells #[.slice A n c] 22)) := by
  obtain ⟨ie, hi, hz0, hz1, hz2⟩ := info_parts infoSlB
  exact run_buildSlice W 59 22 1 _ _ ie _ Try.underlying59 hi hz0 (by rw [hz1]; decide) (by rw [hz1]; decide) (by rw [hz1]; kernel_rfl)
set_option maxRecDepth 100000 in
theorem wpList_tab {w : World} {ops : Array Oper} {rest : List Oper} {o : Oper} {a : Act} {Q : Exit → Act → World → Prop} (hgd : o.guard = none) (s x : Operand) (ho : o.op = .call { callee := .builtin .append, args := #[s, x], argTypes := #[59, 59] })
    (v : Value) (vals : List Value) (hs : a.eval s = v) (hT : Tab w v vals) (b : Addr) (c : Nat) (u : Value) (hx : a.eval x = .slice (some b) 1 c) (hu : w.cell? b = some u) (h1 : u.oneCell' = true) (hlen : vals.length < 1000000)
    (h : ∀ v' w', Tab w' v' (vals ++ [u]) → Ext (fun k => v.ownBlock = some k) w w' → (∀ k, v'.ownBlock = some k → v.ownBlock = some k ∨ w.heap.size ≤ k) → wpList Try.prog ops Q rest (a.put o.dst v') w') : wpList Try.prog ops Q (o :: rest) a w := by
  refine wpList_plain hgd fun K hK => ?_
  obtain ⟨v', w', hr, h2, h3, h4⟩ := hT.app1 (c := c) o.type hu h1 hlen
  unfold Oper.wp
  simp [execOp, ho, resolve, invoke, builtin, hs, hx, hr, Result.andThen]
  exact hK _ _ (h v' w' h2 h3 h4)
set_option maxRecDepth 100000 in
theorem wpTab {w : World} {o : Oper} {a : Act} {K : Act → World → Prop} {Q : Exit → Act → World → Prop} (s x : Operand) (ho : o.op = .call { callee := .builtin .append, args := #[s, x], argTypes := #[59, 59] })
    (v : Value) (vals : List Value) (hs : a.eval s = v) (hT : Tab w v vals) (b : Addr) (c : Nat) (u : Value) (hx : a.eval x = .slice (some b) 1 c) (hu : w.cell? b = some u) (h1 : u.oneCell' = true) (hlen : vals.length < 1000000)
    (h : ∀ v' w', Tab w' v' (vals ++ [u]) → Ext (fun k => v.ownBlock = some k) w w' → (∀ k, v'.ownBlock = some k → v.ownBlock = some k ∨ w.heap.size ≤ k) → K (a.put o.dst v') w') : o.wp Try.prog a w K Q := by
  obtain ⟨v', w', hr, h2, h3, h4⟩ := hT.app1 (c := c) o.type hu h1 hlen
  unfold Oper.wp execOp
  simp only [ho, resolve, invoke, builtin, Sem.run_bind, Sem.run_pure, Result.andThen_ok, List.map_toArray, List.map_cons, List.map_nil, hs, hx, hr]
  exact h v' w' h2 h3 h4
theorem opCap {P : Program} {o : Oper} {a : Act} {w : World} {K : Act → World → Prop} {Q : Exit → Act → World → Prop} {p : Value → World → Prop} (hK : ∀ v w', p v w' → Ext None_ w w' → K (a.put o.dst v) w') {t : TypeId} {x : Operand} (ho : o.op = .call { callee := .builtin .cap, args := #[x], argTypes := #[t] }) {A : Option Addr} {n c : Nat} (hx : a.eval x = .slice A n c) (ht : P.underlying t = some (.slice (P.elem t))) (hp : p (.int .i64 c) w) : o.wp P a w K Q := by
  refine opVal hK ?_ hp
  unfold execOp
  simp only [ho]
  have e : ∀ (ats : Array TypeId) (ty : TypeId) (cs : Array Bool) (args : Array Value), builtin .cap ats ty cs args = (do pure (.value (← Builtin.cap_ ats ty args))) := fun _ _ _ _ => rfl
  simp [resolve, invoke, hx, e, run_cap_slice (P := P) (w := w) t _ A n c ht, goInt]
theorem binSubW (P : Program) (t : TypeId) (x y : Int) (w : World) : (binOp .sub t (.int .i64 x) (.int .i64 y)).run P w = .ok (.int .i64 (wrap64 (x - y))) w := by
  simp [binOp, go_sem, IntWalk.i64_left]
theorem I64_wrap (n : Int) : I64 (wrap64 n) := by unfold I64 wrap64; omega
/-! ### the words of the region that keeps the copy -/
def cOne (wV : World) (l : List Int) : CG (SV wV) := ⟨fun _ u w => ∃ b A c, u = .slice (some ⟨b, 0, none⟩) 1 1 ∧ wV.heap.size ≤ b ∧ w.cell? ⟨b, 0, none⟩ = some (.slice A l.length c) ∧ OwnB w (fun k => wV.heap.size ≤ k) (.slice A l.length c) l,
  fun _ _ _ _ ⟨b, A, c, h1, h2, h3, h4⟩ hx => ⟨b, A, c, h1, h2, hx.cell h3 (fun a => a), OwnB.ext0 h4 hx⟩, fun _ _ _ _ hx ⟨b, A, c, h1, h2, h3, h4⟩ => ⟨b, A, c, h1, h2, hx.cell h3 (fun hs => by have : b < wV.heap.size := hs; omega), OwnB.farS h4 hx⟩⟩
def TabQ (w1 wV : World) (gb : Nat) (K : List Kp) (vs : List Value) (V1 V2 : Value) (h : Int) (cs : List Value) (l : List Int) (u : Value) (w : World) : Prop := ∃ wa A c, BookC w1 wa gb K vs V1 V2 h cs ∧ Ext None_ wV wa ∧ OwnB wa (fun k => wV.heap.size ≤ k) (.slice A l.length c) l ∧ Tab w u (cs ++ [.slice A l.length c]) ∧ Ext (fun k => V2.ownBlock = some k) wa w ∧ (∀ k, u.ownBlock = some k → V2.ownBlock = some k ∨ wa.heap.size ≤ k)
def cTab (w1 wV : World) (gb : Nat) (K : List Kp) (vs : List Value) (V1 V2 : Value) (h : Int) (cs : List Value) (l : List Int) : CG (SV wV) := cR 2 2 (fun u w => TabQ w1 wV gb K vs V1 V2 h cs l u w) (fun _ _ _ ⟨wa, A, c, h1, h2, h3, h4, h5, h6⟩ hx => ⟨wa, A, c, h1, h2, h3, h4.ext0 hx, h5.trans0 hx, h6⟩) (fun k h1 h2 => by omega)
def BkQ (w1 : World) (gb : Nat) (K : List Kp) (vs : List Value) (V1 : Value) (h : Int) (w : World) : Prop := Ext (fun k => k = gb) w1 w ∧ ∃ V2 cs, BookC w1 w gb K vs V1 V2 h cs
theorem BkQ.ext0 {w1 w w' : World} {gb : Nat} {K : List Kp} {vs : List Value} {V1 : Value} {h : Int} (b : BkQ w1 gb K vs V1 h w) (hx : Ext None_ w w') : BkQ w1 gb K vs V1 h w' := by
  obtain ⟨h1, V2, cs, h2⟩ := b
  exact ⟨h1.trans0 hx, V2, cs, h2.ext0 hx⟩
theorem own_row' {w : World} {ok : Nat → Prop} {v : Value} {l : List Int} (h : OwnB w ok v l) : ∃ A c, v = .slice A l.length c ∧ Row w A (B8 l) := own_sl h
def KeepP (w1 : World) (gb : Nat) (KX : List Kp) (e : Ending) (w' : World) : Prop := e = .returned (.tuple #[]) ∧ ∃ n, BookAt w1 w' gb (KX.drop n) ∧ (KX.drop n).length ≤ 4000
/-- How many lists a book's table tells. -/
def tabLen (w : World) (gb : Nat) : Nat := match w.cell? ⟨gb, 0, none⟩ with | some (.slice _ n _) => n | _ => 0
theorem tabLen_eq {w : World} {gb : Nat} {A : Option Addr} {n c : Nat} (h : w.cell? ⟨gb, 0, none⟩ = some (.slice A n c)) : tabLen w gb = n := by unfold tabLen; rw [h]
set_option maxRecDepth 100000 in
set_option maxHeartbeats 8000000 in
theorem Keep_any (w1 : World) (gb : Nat) (K : List Kp) (A : Option Addr) (c : Nat) (l : List Int) (w : World) (hb : BookAt w1 w gb K) (hK : K.length ≤ 4000) (hx : OwnB w1 (fun k => k ≠ gb) (.slice A l.length c) l) (hl : l.length ≤ 140737488355328) (hap : ∀ y ∈ K, ∀ k, y.v.ownBlock = some k → ¬ (Value.slice A l.length c).ownBlock = some k) :
    Calls Try.prog 40 #[.pointer (some ⟨gb, 0, none⟩), .slice A l.length c] w fun e w' => e = .returned (.tuple #[]) ∧ ∃ n, BookAt w1 w' gb ((K ++ [Kp.mk (.slice A l.length c) l]).drop n) ∧ ((K ++ [Kp.mk (.slice A l.length c) l]).drop n).length ≤ 4000 := by
  obtain ⟨hx1, hgb, hown, hapt, V1, V2, h0, cs, hc⟩ := hb
  have hown2 : ∀ x ∈ K ++ [Kp.mk (.slice A l.length c) l], OwnB w1 (fun k => k ≠ gb) x.v x.l ∧ x.l.length ≤ 140737488355328 := by
    intro x hx2
    rcases List.mem_append.1 hx2 with h | h
    · exact hown x h
    · rw [List.mem_singleton] at h; subst h; exact ⟨hx, hl⟩
  have hapt2 : (K ++ [Kp.mk (.slice A l.length c) l]).Pairwise (fun x y => ∀ k, x.v.ownBlock = some k → ¬ y.v.ownBlock = some k) := by
    rw [List.pairwise_append]
    exact ⟨hapt, List.pairwise_singleton _ _, fun x hx y hy => by rw [List.mem_singleton] at hy; subst hy; exact hap x hx⟩
  obtain ⟨Av, cv_, hve, hac, hcm, _⟩ := Own.slice hx
  injection hve with hae _ hce
  subst hae
  subst hce
  have HC := Lib.hid hc
  have hcl := hc.len
  have c0 := Blk.cell hc.blk 0
  have HBS := fun W => book_slice A l.length c W
  have HX1 := Lib.hid hx1
  have hsz := hx1.size
  have HROW1 : Hid (∀ W, Ext (fun k => k = gb) w1 W → Row W A (B8 l)) := Lib.hid (fun W hxw => own_row (OwnB.ext hx hxw (fun k hk e => hx.blk k hk e)))
  obtain ⟨KX, hKX⟩ : ∃ KX, KX = K ++ [Kp.mk (.slice A l.length c) l] := ⟨_, rfl⟩
  rw [← hKX] at hown2 hapt2 ⊢
  have HOWN := Lib.hid hown2
  have HAPT := Lib.hid hapt2
  clear hc hx1 hown hapt hx hap hown2 hapt2
  go_enter Try.func40, Try.ntmps40
  go_wp2_with (at_builtin; refine wpList_tab rfl (.tmp 8) (.tmp 10) rfl V1 (K.map Kp.v) rfl (HC.out.t1.ext0 (x0 _ _)) ⟨w.heap.size, 0, none⟩ 1 (.slice A l.length c) rfl (Blk.cell (Blk.new w _ _) 0) rfl (by simp; omega) ?_; intro v' wA hT hx hn; obtain ⟨A1, c1, rfl, _⟩ := hT.isSl; have hn1 : (K.map Kp.v ++ [Value.slice A l.length c]).length = K.length + 1 := (by simp); rw [hn1] at hT hn; obtain ⟨hset, hB2⟩ := (HC.out.ext0 (x0 _ _)).set1 hgb (by simp; omega) hT hx hn; have f0 := Blk.cell hB2 0; have z0 := Blk.frozen hB2; have HS := Lib.hid hset; have HX2 : Hid (Ext (fun k => k = gb) w1 wA) := Lib.hid ((HX1.out.trans0 (x0 w _)).trans hx (fun k hk e => by have := (HC.out.b1 k e).1; omega)); rw [hn1]; clear hn1 hT hx hn hset hB2 c0 HC HX1)
  obtain ⟨wS, hwS⟩ : ∃ wS, wS = wA.setCell ⟨gb, 0, none⟩ (.slice A1 (K.length + 1) c1) := ⟨_, rfl⟩
  rw [← hwS] at HS ⊢
  have HXS : Hid (Ext (fun k => k = gb) w1 wS) := Lib.hid (by rw [hwS]; exact HX2.out.setCell (p := ⟨gb, 0, none⟩) (.inl rfl) _)
  have HSZ := Lib.hid HXS.out.size
  have HROW : Hid (∀ W, Ext None_ wS W → Row W A (B8 l)) := Lib.hid (fun W hxw => HROW1.out W (HXS.out.trans0 hxw))
  have HXW : Hid (∀ {W}, Ext (fun k => k = gb ∨ V2.ownBlock = some k) wS W → Ext (fun k => k = gb) w1 W) := Lib.hid (fun hxw => HXS.out.trans hxw (fun k hk e => by
    rcases e with e | e
    · exact e
    · have := HS.out.b2 k e; omega))
  have s1 := Blk.cell HS.out.blk 1
  clear hwS f0 z0 HX2 HBS
  refine wp_region_chain [6, 8, 11] [(0, 2), (0, 1), (0, 1), (0, 1), (0, 1), (0, 0), (0, 1), (1, 1), (1, 2), (0, 2), (0, 2), (2, 3)] (SV wS) [⟨fun w => Ext None_ wS.drew w, fun _ _ h hx => h.trans0 hx⟩, ⟨fun w => Ext None_ wS.drew w, fun _ _ h hx => h.trans0 hx⟩, wiT, ⟨fun w => BkQ w1 gb (K ++ [Kp.mk (.slice A l.length c) l]) (K.map Kp.v ++ [Value.slice A l.length c]) (.slice A1 (K.length + 1) c1) h0 w, fun _ _ h hx => h.ext0 hx⟩] [cv _, cv _, cv _, cv _, cv V2, cv _, cOwn8 wS l, cOne wS l, cTab w1 wS gb K (K.map Kp.v ++ [Value.slice A l.length c]) (.slice A1 (K.length + 1) c1) V2 h0 cs l, cv _, cv _, cAny] (by kernel_rfl) rfl rfl rfl rfl rfl rfl rfl rfl ((Ext.refl None_ wS.drew : Ext None_ wS.drew wS.drew)) ⟨
    (by
      intro Lq aq wq kq hd hj hlo hhi Kq hK
      rw [if_pos (wanted_none rfl)]
      have f0 := hj.base 0 rfl rfl
      exact opMove hK rfl (ev f0) rfl),
    (by
      intro Lq aq wq kq hd hj hlo hhi Kq hK
      rw [if_pos (wanted_none rfl)]
      have f0 := hj.base 0 rfl rfl
      exact opMove hK rfl (ev f0) rfl),
    (by
      intro Lq aq wq kq hd hj hlo hhi Kq hK
      rw [if_pos (wanted_none rfl)]
      have f15 := hj.val 1 15 rfl rfl (by simp) rfl (hd ⟨1, .data⟩ (by simp) rfl)
      exact opNil hK rfl (ev f15) rfl),
    (by
      intro Lq aq wq kq hd hj hlo hhi Kq hK
      rw [if_pos (wanted_none rfl)]
      have f16 := hj.val 2 16 rfl rfl (by simp) rfl (hd ⟨2, .data⟩ (by simp) rfl)
      exact opFieldA hK rfl (k := 1) (ev f16) (fun W => by kernel_rfl) rfl),
    (by
      intro Lq aq wq kq hd hj hlo hhi Kq hK
      rw [if_pos (wanted_none rfl)]
      have f17 := hj.val 3 17 rfl rfl (by simp) rfl (hd ⟨3, .data⟩ (by simp) rfl)
      have hj0 : Ext None_ wS.drew wq := by
        rcases (show kq = 0 ∨ kq = 1 from by have : kq ≤ 1 := hhi; omega) with rfl | rfl
        · exact hj.inv
        · exact hj.inv
      exact opLoad hK rfl (ev f17) Try.underlying59 rfl (Ext.cell ((Ext.refl None_ wS).drew.trans0 hj0) s1 (fun a => a)) rfl),
    (by
      intro Lq aq wq kq hd hj hlo hhi Kq hK
      rw [if_pos (wanted_none rfl)]
      have f1 := hj.base 1 rfl rfl
      exact opMove hK rfl (ev f1) rfl),
    (by
      intro Lq aq wq hd hj Kq hK
      rw [if_pos (wanted_none rfl)]
      have f19 := hj.val 5 19 rfl rfl (by simp) rfl (hd ⟨5, .data⟩ (by simp) rfl)
      refine opApp8 (ok := fun k => wS.heap.size ≤ k) (m := l) (fun v w' h hx => hK v w' h (Ext.trans0 hj.inv hx) (hx.mono (fun _ _ a => a.elim))) rfl rfl (ev f19) (HROW.out _ ((Ext.refl None_ wS).drew.trans0 (hj.inv : Ext None_ wS.drew wq))) (by omega) (fun k hk => Nat.le_trans (Ext.size ((Ext.refl None_ wS).drew.trans0 (hj.inv : Ext None_ wS.drew wq))) hk)),
    (by
      intro Lq aq wq kq hd hj hlo hhi Kq hK
      rw [if_pos (wanted_none rfl)]
      obtain ⟨u20, f20, g20⟩ := hj.at_ 6 20 rfl rfl (by simp) (hd ⟨6, .data⟩ (by simp) rfl)
      obtain ⟨Ay, cy, rfl, _⟩ := Own.slice g20
      have hsz : wS.heap.size ≤ wq.heap.size := by
        rcases (show kq = 0 ∨ kq = 1 from by have : kq ≤ 1 := hhi; omega) with rfl | rfl
        · exact Ext.size ((Ext.refl None_ wS).drew.trans0 (hj.inv : Ext None_ wS.drew wq))
        · exact Ext.size ((Ext.refl None_ wS).drew.trans0 (hj.inv : Ext None_ wS.drew wq))
      exact opSlice hK rfl (ps := #[(0, .slice Ay l.length cy)]) (by simp [ev f20]) (book_slice Ay _ cy) ⟨_, Ay, cy, rfl, hsz, Blk.cell (Blk.new wq _ _) 0, Own.alloc g20 _⟩),
    (by
      intro Lq aq wq hd hj Kq hK
      rw [if_pos (wanted_none rfl)]
      have f18 := hj.val 4 18 rfl rfl (by simp) rfl (hd ⟨4, .data⟩ (by simp) rfl)
      obtain ⟨u21, f21, g21⟩ := hj.at_ 7 21 rfl rfl (by simp) (hd ⟨7, .data⟩ (by simp) rfl)
      obtain ⟨b, Ay, cy, rfl, hb1, hb2, hb3⟩ := g21
      have hxq : Ext None_ wS wq := ((Ext.refl None_ wS).drew.trans0 (hj.inv : Ext None_ wS.drew wq))
      have hbq := HS.out.ext0 hxq
      exact wpTab _ _ rfl V2 cs (ev f18) hbq.t2 ⟨b, 0, none⟩ 1 (.slice Ay l.length cy) (ev f21) hb2 rfl (by omega) (fun v' w' h1 h2 h3 => hK v' w' ⟨Nat.le_refl _, fun _ => ⟨wq, Ay, cy, hbq, hxq, hb3, h1, h2, h3⟩⟩ trivial (h2.mono (fun k _ hk => HS.out.t2.lt k hk)))),
    (by
      intro Lq aq wq kq hd hj hlo hhi Kq hK
      rw [if_pos (wanted_none rfl)]
      have f14 := hj.val 0 14 rfl rfl (by simp) rfl (hd ⟨0, .data⟩ (by simp) rfl)
      exact opNil hK rfl (ev f14) rfl),
    (by
      intro Lq aq wq kq hd hj hlo hhi Kq hK
      rw [if_pos (wanted_none rfl)]
      have f23 := hj.val 9 23 rfl rfl (by simp) rfl (hd ⟨9, .data⟩ (by simp) rfl)
      exact opFieldA hK rfl (k := 1) (ev f23) (fun W => by kernel_rfl) rfl),
    (by
      intro Lq aq wq hd hj Kq hK
      rw [if_pos (wanted_none rfl)]
      have f24 := hj.val 10 24 rfl rfl (by simp) rfl (hd ⟨10, .data⟩ (by simp) rfl)
      obtain ⟨u22, f22, g22⟩ := hj.at_ 8 22 rfl rfl (by simp) (hd ⟨8, .data⟩ (by simp) rfl)
      obtain ⟨wa, Ay, cy, q1, q2, q3, q4, q5, q6⟩ := g22.2 (Nat.le_refl _)
      obtain ⟨Az, cz, rfl, _⟩ := q4.isSl
      obtain ⟨s1, s2⟩ := q1.set2 (x := ⟨.slice A l.length c, l⟩) hgb (Nat.le_trans HSZ.out q2.size) q4 q5 q6 (own_row q3) (fun ad e _ => by
        have hb := q3.blk ad.block (by rw [e]; rfl)
        have hsz := HSZ.out
        have h1 := HS.out.t1.lt
        have h2 := HS.out.t2.lt
        exact ⟨Nat.le_trans hsz hb, fun e => Nat.lt_irrefl _ (Nat.lt_of_lt_of_le (h1 _ e) hb), fun e => Nat.lt_irrefl _ (Nat.lt_of_lt_of_le (h2 _ e) hb)⟩)
      exact opStoreC hK rfl (ev f24) (ev f22) rfl rfl (by kernel_rfl) (by rw [Blk.cell s2 1]; rfl) (Blk.frozen s2 1) trivial ⟨HXW.out (((q2.mono (fun _ _ a => a.elim)).trans q5 (fun k _ hk => .inr hk)).setCell (p := ⟨gb, 1, none⟩) (.inl (.inl rfl)) _), _, _, s1⟩ ((Ext.refl (SV wS 2) wq).setCell (p := ⟨gb, 1, none⟩) (Or.inl (show gb < wS.heap.size from Nat.lt_of_lt_of_le hgb HSZ.out)) _)),
    trivial⟩ ?fin
  case fin =>
    intro vs wZ hI hg
    have hI : BkQ w1 gb (K ++ [Kp.mk (.slice A l.length c) l]) (K.map Kp.v ++ [Value.slice A l.length c]) (.slice A1 (K.length + 1) c1) h0 wZ := hI
    obtain ⟨hxZ, V2z, csz, hZ⟩ := hI
    have HXZ := Lib.hid hxZ
    have HZ := Lib.hid hZ
    have d2 := Blk.cell hZ.blk 2
    have dz := Blk.frozen hZ.blk
    clear hg hZ hxZ s1 HS HXS HROW HXW HSZ
    simp only [putAll, Nat.reduceAdd, Nat.zero_add]
    simp only [Act.put, List.setIfInBounds_toArray, List.set_cons_succ, List.set_cons_zero]
    go_wp2_with fail
    have HBK : Hid (BookAt w1 (wZ.setCell ⟨gb, 2, none⟩ (.int .i64 (wrap64 (wrap64 (h0 + c) + 1)))) gb KX) := Lib.hid ⟨HXZ.out.setCell (p := ⟨gb, 2, none⟩) (.inl rfl) _, hgb, HOWN.out, HAPT.out, _, _, _, _, by rw [hKX, List.map_append]; exact HZ.out.held hgb (I64_wrap _)⟩
    have hkl : KX.length ≤ 4001 := by rw [hKX]; simp; omega
    clear hKX
    clear HZ HXZ d2 dz HOWN HAPT hI
    go_loopw [36] (fun v36 wr => ∃ n, Hid (BookAt w1 wr gb (KX.drop n)) ∧ (KX.drop n).length ≤ 4001) (fun _ wr => tabLen wr gb)
    case atStart => exact ⟨0, HBK, hkl⟩
    case round =>
      obtain ⟨n, hbk, hkl2⟩ := hrel
      obtain ⟨KD, hKD⟩ : ∃ KD, KD = KX.drop n := ⟨_, rfl⟩
      rw [← hKD] at hbk hkl2
      have HKD := Lib.hid hKD
      clear hKD
      obtain ⟨e1, e2, e3, e4, U1, U2, h, ds, hc⟩ := hbk.out
      clear HBK
      by_cases hle : KD.length ≤ 1
      · obtain ⟨B1, b1, rfl, _⟩ := hc.t1.isSl
        have c0 := Blk.cell hc.blk 0
        simp only [List.length_map] at c0
        clear hc e1 e3 e4
        go_wp2_with fail
        go_end0
        exact ⟨rfl, n, by rw [← HKD.out]; exact hbk.out, by have := congrArg List.length HKD.out; simp only [List.length_drop] at this ⊢; omega⟩
      · by_cases hb1 : 1000000 < h
        · obtain ⟨⟨yv, yl⟩, KT, rfl⟩ : ∃ y KT, KD = y :: KT := by
            cases KD with
            | nil => simp at hle
            | cons y KT => exact ⟨y, KT, rfl⟩
          simp only [List.length_cons] at hle hkl2
          obtain ⟨hoy, hyl⟩ := e3 _ (List.mem_cons_self ..)
          simp only at hoy hyl
          have HRY0 := own_row' (OwnB.ext hoy e1 (fun k hk e => hoy.blk k hk e))
          obtain ⟨Ay, cy, rfl, hry⟩ := HRY0
          have HRY := Lib.hid hry
          obtain ⟨d0, dt, rfl⟩ : ∃ d0 dt, ds = d0 :: dt := by
            have := hc.len
            cases ds with
            | nil => simp at this
            | cons d dt => exact ⟨d, dt, rfl⟩
          obtain ⟨A2, cc2, hd0, hr2, _⟩ := hc.cp 0 _ d0 rfl rfl
          simp only at hd0 hr2
          subst hd0
          have HRD := Lib.hid hr2
          obtain ⟨g1, o1, q1, hU1, hq1, hcl1⟩ := hc.t1.cells (by simp)
          obtain ⟨g2, o2, q2, hU2, hq2, hcl2⟩ := hc.t2.cells (by simp)
          have k1 := hcl1 0 _ rfl
          have k2 := hcl2 0 _ rfl
          simp only [Nat.add_zero] at k1 k2
          obtain ⟨B1, s1, T1, hB1, hs1, hsl1, hT1, hT1b⟩ := Tab.tail hc.t1
          obtain ⟨B2, s2, T2, hB2, hs2, hsl2, hT2, hT2b⟩ := Tab.tail hc.t2
          subst hU1 hU2
          have HC := Lib.hid hc
          have c0 := Blk.cell hc.blk 0
          have c1 := Blk.cell hc.blk 1
          have c2 := Blk.cell hc.blk 2
          have c3 := Blk.cell hc.blk 3
          have dz := Blk.frozen hc.blk
          have HE1 := Lib.hid e1
          have HE3 := Lib.hid e3
          have HE4 := Lib.hid e4
          have HT1 := Lib.hid hT1
          have HT2 := Lib.hid hT2
          have HTB1 := Lib.hid hT1b
          have HTB2 := Lib.hid hT2b
          have hmeas := tabLen_eq c0
          clear hcl1 hcl2 hc e1 e3 e4 hry hr2 hoy hT1 hT2 hT1b hT2b hB1 hB2
          simp only [List.map_cons, List.length_cons, List.length_map] at c0 c1 k1 k2 hsl1 hsl2 hq1 hq2 hs1 hs2
          go_wp2_with fail
          refine wp_region_last [sv _, sv _, sv _, sv _, sv _, sv (.bool false), sv _, sv _, sv _, sv _, sv _, sv _, sv _, sv _, sv _, sv _, sv _, sv _, sv (.bool true), sv (.bool false), sv (.bool false), sv _, sv _] (by kernel_rfl) rfl rfl rfl rfl rfl (by decide) ⟨
            (by
              intro Lq aq wq hd hj Kq hK
              rw [if_pos (wanted_none rfl)]
              have f0 := hj.base 0 rfl rfl
              exact opMove hK rfl (ev f0) rfl),
            (by
              intro Lq aq wq hd hj Kq hK
              rw [if_pos (wanted_none rfl)]
              have f0 := hj.base 0 rfl rfl
              exact opMove hK rfl (ev f0) rfl),
            (by
              intro Lq aq wq hd hj Kq hK
              rw [if_pos (wanted_none rfl)]
              have f58 := hj.val 1 58 rfl rfl (by simp) rfl (hd ⟨1, .data⟩ (by simp) rfl)
              exact opNil hK rfl (ev f58) rfl),
            (by
              intro Lq aq wq hd hj Kq hK
              rw [if_pos (wanted_none rfl)]
              have f59 := hj.val 2 59 rfl rfl (by simp) rfl (hd ⟨2, .data⟩ (by simp) rfl)
              exact opFieldA hK rfl (k := 3) (ev f59) (fun W => by kernel_rfl) rfl),
            (by
              intro Lq aq wq hd hj Kq hK
              rw [if_pos (wanted_none rfl)]
              have f60 := hj.val 3 60 rfl rfl (by simp) rfl (hd ⟨3, .data⟩ (by simp) rfl)
              first
                | exact opLoad hK rfl (ev f60) Try.underlying4 rfl (Ext.cell ((Ext.refl None_ _).drew.trans0 hj.ext) c0 (fun a => a)) rfl
                | exact opLoad hK rfl (ev f60) Try.underlying4 rfl (Ext.cell ((Ext.refl None_ _).drew.trans0 hj.ext) c1 (fun a => a)) rfl
                | exact opLoad hK rfl (ev f60) Try.underlying4 rfl (Ext.cell ((Ext.refl None_ _).drew.trans0 hj.ext) c2 (fun a => a)) rfl
                | exact opLoad hK rfl (ev f60) Try.underlying4 rfl (Ext.cell ((Ext.refl None_ _).drew.trans0 hj.ext) c3 (fun a => a)) rfl
                | exact opLoad hK rfl (ev f60) Try.underlying4 rfl (Ext.cell ((Ext.refl None_ _).drew.trans0 hj.ext) k1 (fun a => a)) rfl
                | exact opLoad hK rfl (ev f60) Try.underlying4 rfl (Ext.cell ((Ext.refl None_ _).drew.trans0 hj.ext) k2 (fun a => a)) rfl),
            (by
              intro Lq aq wq hd hj Kq hK
              rw [if_pos (wanted_none rfl)]
              have f61 := hj.val 4 61 rfl rfl (by simp) rfl (hd ⟨4, .data⟩ (by simp) rfl)
              exact opMove hK rfl (ev f61) rfl),
            (by
              intro Lq aq wq hd hj Kq hK
              have fg := hj.val 5 62 rfl rfl (by simp) rfl (hd ⟨5, .guard⟩ (by simp) rfl)
              rw [wanted_some (c := false) rfl rfl rfl fg, if_pos (by rfl)]
              have f0 := hj.base 0 rfl rfl
              exact opMove hK rfl (ev f0) rfl),
            (by
              intro Lq aq wq hd hj Kq hK
              have fg := hj.val 5 62 rfl rfl (by simp) rfl (hd ⟨5, .guard⟩ (by simp) rfl)
              rw [wanted_some (c := false) rfl rfl rfl fg, if_pos (by rfl)]
              have f63 := hj.val 6 63 rfl rfl (by simp) rfl (hd ⟨6, .data⟩ (by simp) rfl)
              exact opNil hK rfl (ev f63) rfl),
            (by
              intro Lq aq wq hd hj Kq hK
              have fg := hj.val 5 62 rfl rfl (by simp) rfl (hd ⟨5, .guard⟩ (by simp) rfl)
              rw [wanted_some (c := false) rfl rfl rfl fg, if_pos (by rfl)]
              have f64 := hj.val 7 64 rfl rfl (by simp) rfl (hd ⟨7, .data⟩ (by simp) rfl)
              exact opFieldA hK rfl (k := 0) (ev f64) (fun W => by kernel_rfl) rfl),
            (by
              intro Lq aq wq hd hj Kq hK
              have fg := hj.val 5 62 rfl rfl (by simp) rfl (hd ⟨5, .guard⟩ (by simp) rfl)
              rw [wanted_some (c := false) rfl rfl rfl fg, if_pos (by rfl)]
              have f65 := hj.val 8 65 rfl rfl (by simp) rfl (hd ⟨8, .data⟩ (by simp) rfl)
              first
                | exact opLoad hK rfl (ev f65) Try.underlying59 rfl (Ext.cell ((Ext.refl None_ _).drew.trans0 hj.ext) c0 (fun a => a)) rfl
                | exact opLoad hK rfl (ev f65) Try.underlying59 rfl (Ext.cell ((Ext.refl None_ _).drew.trans0 hj.ext) c1 (fun a => a)) rfl
                | exact opLoad hK rfl (ev f65) Try.underlying59 rfl (Ext.cell ((Ext.refl None_ _).drew.trans0 hj.ext) c2 (fun a => a)) rfl
                | exact opLoad hK rfl (ev f65) Try.underlying59 rfl (Ext.cell ((Ext.refl None_ _).drew.trans0 hj.ext) c3 (fun a => a)) rfl
                | exact opLoad hK rfl (ev f65) Try.underlying59 rfl (Ext.cell ((Ext.refl None_ _).drew.trans0 hj.ext) k1 (fun a => a)) rfl
                | exact opLoad hK rfl (ev f65) Try.underlying59 rfl (Ext.cell ((Ext.refl None_ _).drew.trans0 hj.ext) k2 (fun a => a)) rfl),
            (by
              intro Lq aq wq hd hj Kq hK
              have fg := hj.val 5 62 rfl rfl (by simp) rfl (hd ⟨5, .guard⟩ (by simp) rfl)
              rw [wanted_some (c := false) rfl rfl rfl fg, if_pos (by rfl)]
              have f66 := hj.val 9 66 rfl rfl (by simp) rfl (hd ⟨9, .data⟩ (by simp) rfl)
              exact opIndexB hK rfl (j := o1) (ev f66) rfl Try.underlying59 infoSl1 (by omega) (by (try simp only [List.length_cons]); omega) (by simp) rfl),
            (by
              intro Lq aq wq hd hj Kq hK
              have fg := hj.val 5 62 rfl rfl (by simp) rfl (hd ⟨5, .guard⟩ (by simp) rfl)
              rw [wanted_some (c := false) rfl rfl rfl fg, if_pos (by rfl)]
              have f67 := hj.val 10 67 rfl rfl (by simp) rfl (hd ⟨10, .data⟩ (by simp) rfl)
              first
                | exact opLoad hK rfl (ev f67) Try.underlying22 rfl (Ext.cell ((Ext.refl None_ _).drew.trans0 hj.ext) c0 (fun a => a)) rfl
                | exact opLoad hK rfl (ev f67) Try.underlying22 rfl (Ext.cell ((Ext.refl None_ _).drew.trans0 hj.ext) c1 (fun a => a)) rfl
                | exact opLoad hK rfl (ev f67) Try.underlying22 rfl (Ext.cell ((Ext.refl None_ _).drew.trans0 hj.ext) c2 (fun a => a)) rfl
                | exact opLoad hK rfl (ev f67) Try.underlying22 rfl (Ext.cell ((Ext.refl None_ _).drew.trans0 hj.ext) c3 (fun a => a)) rfl
                | exact opLoad hK rfl (ev f67) Try.underlying22 rfl (Ext.cell ((Ext.refl None_ _).drew.trans0 hj.ext) k1 (fun a => a)) rfl
                | exact opLoad hK rfl (ev f67) Try.underlying22 rfl (Ext.cell ((Ext.refl None_ _).drew.trans0 hj.ext) k2 (fun a => a)) rfl),
            (by
              intro Lq aq wq hd hj Kq hK
              have fg := hj.val 5 62 rfl rfl (by simp) rfl (hd ⟨5, .guard⟩ (by simp) rfl)
              rw [wanted_some (c := false) rfl rfl rfl fg, if_pos (by rfl)]
              have f0 := hj.base 0 rfl rfl
              exact opMove hK rfl (ev f0) rfl),
            (by
              intro Lq aq wq hd hj Kq hK
              have fg := hj.val 5 62 rfl rfl (by simp) rfl (hd ⟨5, .guard⟩ (by simp) rfl)
              rw [wanted_some (c := false) rfl rfl rfl fg, if_pos (by rfl)]
              have f69 := hj.val 12 69 rfl rfl (by simp) rfl (hd ⟨12, .data⟩ (by simp) rfl)
              exact opNil hK rfl (ev f69) rfl),
            (by
              intro Lq aq wq hd hj Kq hK
              have fg := hj.val 5 62 rfl rfl (by simp) rfl (hd ⟨5, .guard⟩ (by simp) rfl)
              rw [wanted_some (c := false) rfl rfl rfl fg, if_pos (by rfl)]
              have f70 := hj.val 13 70 rfl rfl (by simp) rfl (hd ⟨13, .data⟩ (by simp) rfl)
              exact opFieldA hK rfl (k := 1) (ev f70) (fun W => by kernel_rfl) rfl),
            (by
              intro Lq aq wq hd hj Kq hK
              have fg := hj.val 5 62 rfl rfl (by simp) rfl (hd ⟨5, .guard⟩ (by simp) rfl)
              rw [wanted_some (c := false) rfl rfl rfl fg, if_pos (by rfl)]
              have f71 := hj.val 14 71 rfl rfl (by simp) rfl (hd ⟨14, .data⟩ (by simp) rfl)
              first
                | exact opLoad hK rfl (ev f71) Try.underlying59 rfl (Ext.cell ((Ext.refl None_ _).drew.trans0 hj.ext) c0 (fun a => a)) rfl
                | exact opLoad hK rfl (ev f71) Try.underlying59 rfl (Ext.cell ((Ext.refl None_ _).drew.trans0 hj.ext) c1 (fun a => a)) rfl
                | exact opLoad hK rfl (ev f71) Try.underlying59 rfl (Ext.cell ((Ext.refl None_ _).drew.trans0 hj.ext) c2 (fun a => a)) rfl
                | exact opLoad hK rfl (ev f71) Try.underlying59 rfl (Ext.cell ((Ext.refl None_ _).drew.trans0 hj.ext) c3 (fun a => a)) rfl
                | exact opLoad hK rfl (ev f71) Try.underlying59 rfl (Ext.cell ((Ext.refl None_ _).drew.trans0 hj.ext) k1 (fun a => a)) rfl
                | exact opLoad hK rfl (ev f71) Try.underlying59 rfl (Ext.cell ((Ext.refl None_ _).drew.trans0 hj.ext) k2 (fun a => a)) rfl),
            (by
              intro Lq aq wq hd hj Kq hK
              have fg := hj.val 5 62 rfl rfl (by simp) rfl (hd ⟨5, .guard⟩ (by simp) rfl)
              rw [wanted_some (c := false) rfl rfl rfl fg, if_pos (by rfl)]
              have f72 := hj.val 15 72 rfl rfl (by simp) rfl (hd ⟨15, .data⟩ (by simp) rfl)
              exact opIndexB hK rfl (j := o2) (ev f72) rfl Try.underlying59 infoSl1 (by omega) (by (try simp only [List.length_cons]); omega) (by simp) rfl),
            (by
              intro Lq aq wq hd hj Kq hK
              have fg := hj.val 5 62 rfl rfl (by simp) rfl (hd ⟨5, .guard⟩ (by simp) rfl)
              rw [wanted_some (c := false) rfl rfl rfl fg, if_pos (by rfl)]
              have f73 := hj.val 16 73 rfl rfl (by simp) rfl (hd ⟨16, .data⟩ (by simp) rfl)
              first
                | exact opLoad hK rfl (ev f73) Try.underlying22 rfl (Ext.cell ((Ext.refl None_ _).drew.trans0 hj.ext) c0 (fun a => a)) rfl
                | exact opLoad hK rfl (ev f73) Try.underlying22 rfl (Ext.cell ((Ext.refl None_ _).drew.trans0 hj.ext) c1 (fun a => a)) rfl
                | exact opLoad hK rfl (ev f73) Try.underlying22 rfl (Ext.cell ((Ext.refl None_ _).drew.trans0 hj.ext) c2 (fun a => a)) rfl
                | exact opLoad hK rfl (ev f73) Try.underlying22 rfl (Ext.cell ((Ext.refl None_ _).drew.trans0 hj.ext) c3 (fun a => a)) rfl
                | exact opLoad hK rfl (ev f73) Try.underlying22 rfl (Ext.cell ((Ext.refl None_ _).drew.trans0 hj.ext) k1 (fun a => a)) rfl
                | exact opLoad hK rfl (ev f73) Try.underlying22 rfl (Ext.cell ((Ext.refl None_ _).drew.trans0 hj.ext) k2 (fun a => a)) rfl),
            (by
              intro Lq aq wq hd hj Kq hK
              have fg := hj.val 5 62 rfl rfl (by simp) rfl (hd ⟨5, .guard⟩ (by simp) rfl)
              rw [wanted_some (c := false) rfl rfl rfl fg, if_pos (by rfl)]
              have f68 := hj.val 11 68 rfl rfl (by simp) rfl (hd ⟨11, .data⟩ (by simp) rfl)
              have f74 := hj.val 17 74 rfl rfl (by simp) rfl (hd ⟨17, .data⟩ (by simp) rfl)
              exact opCall hK Try.func25 (by kernel_rfl) rfl (args := #[.slice Ay yl.length cy, .slice A2 yl.length cc2]) (by simp [ev f68, ev f74]) ((same_any Ay cy yl A2 cc2 yl _ (HRY.out.ext0 ((Ext.refl None_ _).drew.trans0 hj.ext)) (HRD.out.ext0 ((Ext.refl None_ _).drew.trans0 hj.ext)) hyl hyl).mono fun e w' ⟨h1, h2⟩ => ⟨_, h1, congrArg Value.bool (by simp), h2⟩)),
            (by
              intro Lq aq wq hd hj Kq hK
              have fg := hj.val 5 62 rfl rfl (by simp) rfl (hd ⟨5, .guard⟩ (by simp) rfl)
              rw [wanted_some (c := false) rfl rfl rfl fg, if_pos (by rfl)]
              have f75 := hj.val 18 75 rfl rfl (by simp) rfl (hd ⟨18, .data⟩ (by simp) rfl)
              exact opNot hK rfl (ev f75) rfl),
            (by
              intro Lq aq wq hd hj Kq hK
              rw [if_pos (wanted_none rfl)]
              have f62 := hj.val 5 62 rfl rfl (by simp) rfl (hd ⟨5, .data⟩ (by simp) rfl)
              have f76 := hj.val 19 76 rfl rfl (by simp) rfl (hd ⟨19, .data⟩ (by simp) rfl)
              exact opPick hK rfl (b := false) (ev f62) ((if_neg (by decide)).trans (ev f76)) rfl),
            (by
              intro Lq aq wq hd hj Kq hK
              rw [if_pos (wanted_none rfl)]
              have f57 := hj.val 0 57 rfl rfl (by simp) rfl (hd ⟨0, .data⟩ (by simp) rfl)
              exact opNil hK rfl (ev f57) rfl),
            (by
              intro Lq aq wq hd hj Kq hK
              rw [if_pos (wanted_none rfl)]
              have f78 := hj.val 21 78 rfl rfl (by simp) rfl (hd ⟨21, .data⟩ (by simp) rfl)
              exact opFieldA hK rfl (k := 3) (ev f78) (fun W => by kernel_rfl) rfl),
            trivial⟩ ?fin
          case fin =>
            intro vs w9 hx hg
            have v20 : vs 20 = _ := hg 20 (by decide)
            have v22 : vs 22 = _ := hg 22 (by decide)
            have hxx := (Ext.refl None_ _).drew.trans0 hx
            have HC9 := Lib.hid (HC.out.ext0 hxx)
            have HE9 := Lib.hid (HE1.out.trans0 hxx)
            have HT19 := Lib.hid (HT1.out.ext0 hxx)
            have HT29 := Lib.hid (HT2.out.ext0 hxx)
            have j1 := hxx.cell k1 (fun a => a)
            have j2 := hxx.cell k2 (fun a => a)
            clear hx hg c0 c1 c2 c3 k1 k2 dz HC HE1 HRY HRD HT1 HT2
            simp only [List.dropLast, List.getLast?, List.getLast, Option.toList, putAll, v20, v22, Nat.reduceAdd, Nat.zero_add]
            simp only [Act.put, List.setIfInBounds_toArray, List.set_cons_succ, List.set_cons_zero]
            have r0 := Blk.cell HC9.out.blk 3
            have rz := Blk.frozen HC9.out.blk
            clear hxx
            go_wp2_with fail
            obtain ⟨wT, hwT⟩ : ∃ wT, wT = w9.setCell ⟨gb, 3, none⟩ (.bool false) := ⟨_, rfl⟩
            rw [← hwT]
            have hct := HC9.out.good e2
            have hxt : Ext (fun k => k = gb) w9 wT := by rw [hwT]; exact (Ext.refl (fun k => k = gb) w9).setCell (p := ⟨gb, 3, none⟩) (.inl rfl) _
            have HET := Lib.hid (HE9.out.trans hxt (fun k _ e => e))
            have hg1 : ¬ g1 = gb := fun e => by have := (HC9.out.b1 g1 rfl).1; omega
            have hg2 : ¬ g2 = gb := fun e => by have := HC9.out.b2 g2 rfl; omega
            have hcell1 := hxt.cell j1 hg1
            have hcell2 := hxt.cell j2 hg2
            rw [← hwT] at hct
            have HTT1 := Lib.hid (HT19.out.ext hxt (fun k e hk => by have := (HC9.out.b1 k (HTB1.out k e)).1; have hk : k = gb := hk; omega))
            have HTT2 := Lib.hid (HT29.out.ext hxt (fun k e hk => by have := HC9.out.b2 k (HTB2.out k e); have hk : k = gb := hk; omega))
            have HCT := Lib.hid hct
            have c0 := Blk.cell hct.blk 0
            have c1 := Blk.cell hct.blk 1
            have c2 := Blk.cell hct.blk 2
            have c3 := Blk.cell hct.blk 3
            have k1 := hcell1
            have k2 := hcell2
            simp only [List.map_cons, List.length_cons, List.length_map] at c0 c1
            clear hwT hxt hct hcell1 hcell2 j1 j2 HC9 HE9 HT19 HT29 r0 rz
            refine wp_region_last [sv _, sv _, sv _, sv _, sv _, sv _, sv _, sv _, sv _, sv _, sv _, sv _, sv _, sv _, sv _, sv _] (by kernel_rfl) rfl rfl rfl rfl rfl (by decide) ⟨
              (by
                intro Lq aq wq hd hj Kq hK
                rw [if_pos (wanted_none rfl)]
                have f0 := hj.base 0 rfl rfl
                exact opMove hK rfl (ev f0) rfl),
              (by
                intro Lq aq wq hd hj Kq hK
                rw [if_pos (wanted_none rfl)]
                have f0 := hj.base 0 rfl rfl
                exact opMove hK rfl (ev f0) rfl),
              (by
                intro Lq aq wq hd hj Kq hK
                rw [if_pos (wanted_none rfl)]
                have f81 := hj.val 1 81 rfl rfl (by simp) rfl (hd ⟨1, .data⟩ (by simp) rfl)
                exact opNil hK rfl (ev f81) rfl),
              (by
                intro Lq aq wq hd hj Kq hK
                rw [if_pos (wanted_none rfl)]
                have f82 := hj.val 2 82 rfl rfl (by simp) rfl (hd ⟨2, .data⟩ (by simp) rfl)
                exact opFieldA hK rfl (k := 2) (ev f82) (fun W => by kernel_rfl) rfl),
              (by
                intro Lq aq wq hd hj Kq hK
                rw [if_pos (wanted_none rfl)]
                have f83 := hj.val 3 83 rfl rfl (by simp) rfl (hd ⟨3, .data⟩ (by simp) rfl)
                first
                  | exact opLoad hK rfl (ev f83) Try.underlying3 rfl (Ext.cell ((Ext.refl None_ _).drew.trans0 hj.ext) c0 (fun a => a)) rfl
                  | exact opLoad hK rfl (ev f83) Try.underlying3 rfl (Ext.cell ((Ext.refl None_ _).drew.trans0 hj.ext) c1 (fun a => a)) rfl
                  | exact opLoad hK rfl (ev f83) Try.underlying3 rfl (Ext.cell ((Ext.refl None_ _).drew.trans0 hj.ext) c2 (fun a => a)) rfl
                  | exact opLoad hK rfl (ev f83) Try.underlying3 rfl (Ext.cell ((Ext.refl None_ _).drew.trans0 hj.ext) c3 (fun a => a)) rfl
                  | exact opLoad hK rfl (ev f83) Try.underlying3 rfl (Ext.cell ((Ext.refl None_ _).drew.trans0 hj.ext) k1 (fun a => a)) rfl
                  | exact opLoad hK rfl (ev f83) Try.underlying3 rfl (Ext.cell ((Ext.refl None_ _).drew.trans0 hj.ext) k2 (fun a => a)) rfl),
              (by
                intro Lq aq wq hd hj Kq hK
                rw [if_pos (wanted_none rfl)]
                have f0 := hj.base 0 rfl rfl
                exact opMove hK rfl (ev f0) rfl),
              (by
                intro Lq aq wq hd hj Kq hK
                rw [if_pos (wanted_none rfl)]
                have f85 := hj.val 5 85 rfl rfl (by simp) rfl (hd ⟨5, .data⟩ (by simp) rfl)
                exact opNil hK rfl (ev f85) rfl),
              (by
                intro Lq aq wq hd hj Kq hK
                rw [if_pos (wanted_none rfl)]
                have f86 := hj.val 6 86 rfl rfl (by simp) rfl (hd ⟨6, .data⟩ (by simp) rfl)
                exact opFieldA hK rfl (k := 0) (ev f86) (fun W => by kernel_rfl) rfl),
              (by
                intro Lq aq wq hd hj Kq hK
                rw [if_pos (wanted_none rfl)]
                have f87 := hj.val 7 87 rfl rfl (by simp) rfl (hd ⟨7, .data⟩ (by simp) rfl)
                first
                  | exact opLoad hK rfl (ev f87) Try.underlying59 rfl (Ext.cell ((Ext.refl None_ _).drew.trans0 hj.ext) c0 (fun a => a)) rfl
                  | exact opLoad hK rfl (ev f87) Try.underlying59 rfl (Ext.cell ((Ext.refl None_ _).drew.trans0 hj.ext) c1 (fun a => a)) rfl
                  | exact opLoad hK rfl (ev f87) Try.underlying59 rfl (Ext.cell ((Ext.refl None_ _).drew.trans0 hj.ext) c2 (fun a => a)) rfl
                  | exact opLoad hK rfl (ev f87) Try.underlying59 rfl (Ext.cell ((Ext.refl None_ _).drew.trans0 hj.ext) c3 (fun a => a)) rfl
                  | exact opLoad hK rfl (ev f87) Try.underlying59 rfl (Ext.cell ((Ext.refl None_ _).drew.trans0 hj.ext) k1 (fun a => a)) rfl
                  | exact opLoad hK rfl (ev f87) Try.underlying59 rfl (Ext.cell ((Ext.refl None_ _).drew.trans0 hj.ext) k2 (fun a => a)) rfl),
              (by
                intro Lq aq wq hd hj Kq hK
                rw [if_pos (wanted_none rfl)]
                have f88 := hj.val 8 88 rfl rfl (by simp) rfl (hd ⟨8, .data⟩ (by simp) rfl)
                exact opIndexB hK rfl (j := o1) (ev f88) rfl Try.underlying59 infoSl1 (by omega) (by (try simp only [List.length_cons]); omega) (by simp) rfl),
              (by
                intro Lq aq wq hd hj Kq hK
                rw [if_pos (wanted_none rfl)]
                have f89 := hj.val 9 89 rfl rfl (by simp) rfl (hd ⟨9, .data⟩ (by simp) rfl)
                first
                  | exact opLoad hK rfl (ev f89) Try.underlying22 rfl (Ext.cell ((Ext.refl None_ _).drew.trans0 hj.ext) c0 (fun a => a)) rfl
                  | exact opLoad hK rfl (ev f89) Try.underlying22 rfl (Ext.cell ((Ext.refl None_ _).drew.trans0 hj.ext) c1 (fun a => a)) rfl
                  | exact opLoad hK rfl (ev f89) Try.underlying22 rfl (Ext.cell ((Ext.refl None_ _).drew.trans0 hj.ext) c2 (fun a => a)) rfl
                  | exact opLoad hK rfl (ev f89) Try.underlying22 rfl (Ext.cell ((Ext.refl None_ _).drew.trans0 hj.ext) c3 (fun a => a)) rfl
                  | exact opLoad hK rfl (ev f89) Try.underlying22 rfl (Ext.cell ((Ext.refl None_ _).drew.trans0 hj.ext) k1 (fun a => a)) rfl
                  | exact opLoad hK rfl (ev f89) Try.underlying22 rfl (Ext.cell ((Ext.refl None_ _).drew.trans0 hj.ext) k2 (fun a => a)) rfl),
              (by
                intro Lq aq wq hd hj Kq hK
                rw [if_pos (wanted_none rfl)]
                have f90 := hj.val 10 90 rfl rfl (by simp) rfl (hd ⟨10, .data⟩ (by simp) rfl)
                exact opCap hK rfl (ev f90) (by kernel_rfl) rfl),
              (by
                intro Lq aq wq hd hj Kq hK
                rw [if_pos (wanted_none rfl)]
                have f84 := hj.val 4 84 rfl rfl (by simp) rfl (hd ⟨4, .data⟩ (by simp) rfl)
                have f91 := hj.val 11 91 rfl rfl (by simp) rfl (hd ⟨11, .data⟩ (by simp) rfl)
                exact opBin hK rfl (ev f84) (ev f91) (guardInt _ _ _ _ _ _ _ _ _) (binSubW _ _ _ _ _) rfl),
              (by
                intro Lq aq wq hd hj Kq hK
                rw [if_pos (wanted_none rfl)]
                have f92 := hj.val 12 92 rfl rfl (by simp) rfl (hd ⟨12, .data⟩ (by simp) rfl)
                exact opBin hK rfl (ev f92) rfl (guardInt _ _ _ _ _ _ _ _ _) (binSubW _ _ _ _ _) rfl),
              (by
                intro Lq aq wq hd hj Kq hK
                rw [if_pos (wanted_none rfl)]
                have f80 := hj.val 0 80 rfl rfl (by simp) rfl (hd ⟨0, .data⟩ (by simp) rfl)
                exact opNil hK rfl (ev f80) rfl),
              (by
                intro Lq aq wq hd hj Kq hK
                rw [if_pos (wanted_none rfl)]
                have f94 := hj.val 14 94 rfl rfl (by simp) rfl (hd ⟨14, .data⟩ (by simp) rfl)
                exact opFieldA hK rfl (k := 2) (ev f94) (fun W => by kernel_rfl) rfl),
              trivial⟩ ?fin
            case fin =>
              intro vs2 w10 hx hg
              have v13 : vs2 13 = _ := hg 13 (by decide)
              have v15 : vs2 15 = _ := hg 15 (by decide)
              have hxx := (Ext.refl None_ _).drew.trans0 hx
              have HCU := Lib.hid ((HCT.out.ext0 hxx).held e2 (I64_wrap (wrap64 (h - cy) - 1)))
              have hxu : Ext (fun k => k = gb) w10 (w10.setCell ⟨gb, 2, none⟩ (.int .i64 (wrap64 (wrap64 (h - cy) - 1)))) := (Ext.refl (fun k => k = gb) w10).setCell (p := ⟨gb, 2, none⟩) (.inl rfl) _
              have HEU := Lib.hid ((HET.out.trans0 hxx).trans hxu (fun k _ e => e))
              have HU1 := Lib.hid ((HTT1.out.ext0 hxx).ext hxu (fun k e hk => by have := (HCT.out.b1 k (HTB1.out k e)).1; have hk : k = gb := hk; omega))
              have HU2 := Lib.hid ((HTT2.out.ext0 hxx).ext hxu (fun k e hk => by have := HCT.out.b2 k (HTB2.out k e); have hk : k = gb := hk; omega))
              have r0 := Blk.cell (HCT.out.ext0 hxx).blk 0
              have r1 := Blk.cell (HCT.out.ext0 hxx).blk 1
              have r2 := Blk.cell (HCT.out.ext0 hxx).blk 2
              have rz := Blk.frozen (HCT.out.ext0 hxx).blk
              simp only [List.map_cons, List.length_cons, List.length_map] at r0 r1
              clear hx hg hxx hxu c0 c1 c2 c3 k1 k2 HCT HET HTT1 HTT2
              simp only [List.dropLast, List.getLast?, List.getLast, Option.toList, putAll, v13, v15, Nat.reduceAdd, Nat.zero_add]
              simp only [Act.put, List.setIfInBounds_toArray, List.set_cons_succ, List.set_cons_zero]
              go_wp2_with fail
              have hpop := HCU.out.pop e2 HU1.out HU2.out HTB1.out HTB2.out
              rw [List.length_map] at hpop
              have HPOP := Lib.hid hpop
              clear hpop
              have hKT : KX.drop (n + 1) = KT := by
                have := congrArg (List.drop 1) HKD.out
                rw [List.drop_drop] at this
                simpa using this.symm
              go_roundw
              case rel => exact ⟨n + 1, Lib.hid (by rw [hKT]; exact ⟨(HEU.out.setCell (p := ⟨gb, 0, none⟩) (.inl rfl) _).setCell (p := ⟨gb, 1, none⟩) (.inl rfl) _, e2, fun x hx => HE3.out x (List.mem_cons_of_mem _ hx), (List.pairwise_cons.1 HE4.out).2, _, _, _, _, HPOP.out⟩), by rw [hKT]; omega⟩
              case measure =>
                rw [hmeas, tabLen_eq (Blk.cell HPOP.out.blk 0)]
                simp
        · by_cases hb2 : 4000 < KD.length
          · obtain ⟨⟨yv, yl⟩, KT, rfl⟩ : ∃ y KT, KD = y :: KT := by
              cases KD with
              | nil => simp at hle
              | cons y KT => exact ⟨y, KT, rfl⟩
            simp only [List.length_cons] at hle hkl2 hb2
            obtain ⟨hoy, hyl⟩ := e3 _ (List.mem_cons_self ..)
            simp only at hoy hyl
            have HRY0 := own_row' (OwnB.ext hoy e1 (fun k hk e => hoy.blk k hk e))
            obtain ⟨Ay, cy, rfl, hry⟩ := HRY0
            have HRY := Lib.hid hry
            obtain ⟨d0, dt, rfl⟩ : ∃ d0 dt, ds = d0 :: dt := by
              have := hc.len
              cases ds with
              | nil => simp at this
              | cons d dt => exact ⟨d, dt, rfl⟩
            obtain ⟨A2, cc2, hd0, hr2, _⟩ := hc.cp 0 _ d0 rfl rfl
            simp only at hd0 hr2
            subst hd0
            have HRD := Lib.hid hr2
            obtain ⟨g1, o1, q1, hU1, hq1, hcl1⟩ := hc.t1.cells (by simp)
            obtain ⟨g2, o2, q2, hU2, hq2, hcl2⟩ := hc.t2.cells (by simp)
            have k1 := hcl1 0 _ rfl
            have k2 := hcl2 0 _ rfl
            simp only [Nat.add_zero] at k1 k2
            obtain ⟨B1, s1, T1, hB1, hs1, hsl1, hT1, hT1b⟩ := Tab.tail hc.t1
            obtain ⟨B2, s2, T2, hB2, hs2, hsl2, hT2, hT2b⟩ := Tab.tail hc.t2
            subst hU1 hU2
            have HC := Lib.hid hc
            have c0 := Blk.cell hc.blk 0
            have c1 := Blk.cell hc.blk 1
            have c2 := Blk.cell hc.blk 2
            have c3 := Blk.cell hc.blk 3
            have dz := Blk.frozen hc.blk
            have HE1 := Lib.hid e1
            have HE3 := Lib.hid e3
            have HE4 := Lib.hid e4
            have HT1 := Lib.hid hT1
            have HT2 := Lib.hid hT2
            have HTB1 := Lib.hid hT1b
            have HTB2 := Lib.hid hT2b
            have hmeas := tabLen_eq c0
            clear hcl1 hcl2 hc e1 e3 e4 hry hr2 hoy hT1 hT2 hT1b hT2b hB1 hB2
            simp only [List.map_cons, List.length_cons, List.length_map] at c0 c1 k1 k2 hsl1 hsl2 hq1 hq2 hs1 hs2
            go_wp2_with fail
            refine wp_region_last [sv _, sv _, sv _, sv _, sv _, sv (.bool false), sv _, sv _, sv _, sv _, sv _, sv _, sv _, sv _, sv _, sv _, sv _, sv _, sv (.bool true), sv (.bool false), sv (.bool false), sv _, sv _] (by kernel_rfl) rfl rfl rfl rfl rfl (by decide) ⟨
              (by
                intro Lq aq wq hd hj Kq hK
                rw [if_pos (wanted_none rfl)]
                have f0 := hj.base 0 rfl rfl
                exact opMove hK rfl (ev f0) rfl),
              (by
                intro Lq aq wq hd hj Kq hK
                rw [if_pos (wanted_none rfl)]
                have f0 := hj.base 0 rfl rfl
                exact opMove hK rfl (ev f0) rfl),
              (by
                intro Lq aq wq hd hj Kq hK
                rw [if_pos (wanted_none rfl)]
                have f58 := hj.val 1 58 rfl rfl (by simp) rfl (hd ⟨1, .data⟩ (by simp) rfl)
                exact opNil hK rfl (ev f58) rfl),
              (by
                intro Lq aq wq hd hj Kq hK
                rw [if_pos (wanted_none rfl)]
                have f59 := hj.val 2 59 rfl rfl (by simp) rfl (hd ⟨2, .data⟩ (by simp) rfl)
                exact opFieldA hK rfl (k := 3) (ev f59) (fun W => by kernel_rfl) rfl),
              (by
                intro Lq aq wq hd hj Kq hK
                rw [if_pos (wanted_none rfl)]
                have f60 := hj.val 3 60 rfl rfl (by simp) rfl (hd ⟨3, .data⟩ (by simp) rfl)
                first
                  | exact opLoad hK rfl (ev f60) Try.underlying4 rfl (Ext.cell ((Ext.refl None_ _).drew.trans0 hj.ext) c0 (fun a => a)) rfl
                  | exact opLoad hK rfl (ev f60) Try.underlying4 rfl (Ext.cell ((Ext.refl None_ _).drew.trans0 hj.ext) c1 (fun a => a)) rfl
                  | exact opLoad hK rfl (ev f60) Try.underlying4 rfl (Ext.cell ((Ext.refl None_ _).drew.trans0 hj.ext) c2 (fun a => a)) rfl
                  | exact opLoad hK rfl (ev f60) Try.underlying4 rfl (Ext.cell ((Ext.refl None_ _).drew.trans0 hj.ext) c3 (fun a => a)) rfl
                  | exact opLoad hK rfl (ev f60) Try.underlying4 rfl (Ext.cell ((Ext.refl None_ _).drew.trans0 hj.ext) k1 (fun a => a)) rfl
                  | exact opLoad hK rfl (ev f60) Try.underlying4 rfl (Ext.cell ((Ext.refl None_ _).drew.trans0 hj.ext) k2 (fun a => a)) rfl),
              (by
                intro Lq aq wq hd hj Kq hK
                rw [if_pos (wanted_none rfl)]
                have f61 := hj.val 4 61 rfl rfl (by simp) rfl (hd ⟨4, .data⟩ (by simp) rfl)
                exact opMove hK rfl (ev f61) rfl),
              (by
                intro Lq aq wq hd hj Kq hK
                have fg := hj.val 5 62 rfl rfl (by simp) rfl (hd ⟨5, .guard⟩ (by simp) rfl)
                rw [wanted_some (c := false) rfl rfl rfl fg, if_pos (by rfl)]
                have f0 := hj.base 0 rfl rfl
                exact opMove hK rfl (ev f0) rfl),
              (by
                intro Lq aq wq hd hj Kq hK
                have fg := hj.val 5 62 rfl rfl (by simp) rfl (hd ⟨5, .guard⟩ (by simp) rfl)
                rw [wanted_some (c := false) rfl rfl rfl fg, if_pos (by rfl)]
                have f63 := hj.val 6 63 rfl rfl (by simp) rfl (hd ⟨6, .data⟩ (by simp) rfl)
                exact opNil hK rfl (ev f63) rfl),
              (by
                intro Lq aq wq hd hj Kq hK
                have fg := hj.val 5 62 rfl rfl (by simp) rfl (hd ⟨5, .guard⟩ (by simp) rfl)
                rw [wanted_some (c := false) rfl rfl rfl fg, if_pos (by rfl)]
                have f64 := hj.val 7 64 rfl rfl (by simp) rfl (hd ⟨7, .data⟩ (by simp) rfl)
                exact opFieldA hK rfl (k := 0) (ev f64) (fun W => by kernel_rfl) rfl),
              (by
                intro Lq aq wq hd hj Kq hK
                have fg := hj.val 5 62 rfl rfl (by simp) rfl (hd ⟨5, .guard⟩ (by simp) rfl)
                rw [wanted_some (c := false) rfl rfl rfl fg, if_pos (by rfl)]
                have f65 := hj.val 8 65 rfl rfl (by simp) rfl (hd ⟨8, .data⟩ (by simp) rfl)
                first
                  | exact opLoad hK rfl (ev f65) Try.underlying59 rfl (Ext.cell ((Ext.refl None_ _).drew.trans0 hj.ext) c0 (fun a => a)) rfl
                  | exact opLoad hK rfl (ev f65) Try.underlying59 rfl (Ext.cell ((Ext.refl None_ _).drew.trans0 hj.ext) c1 (fun a => a)) rfl
                  | exact opLoad hK rfl (ev f65) Try.underlying59 rfl (Ext.cell ((Ext.refl None_ _).drew.trans0 hj.ext) c2 (fun a => a)) rfl
                  | exact opLoad hK rfl (ev f65) Try.underlying59 rfl (Ext.cell ((Ext.refl None_ _).drew.trans0 hj.ext) c3 (fun a => a)) rfl
                  | exact opLoad hK rfl (ev f65) Try.underlying59 rfl (Ext.cell ((Ext.refl None_ _).drew.trans0 hj.ext) k1 (fun a => a)) rfl
                  | exact opLoad hK rfl (ev f65) Try.underlying59 rfl (Ext.cell ((Ext.refl None_ _).drew.trans0 hj.ext) k2 (fun a => a)) rfl),
              (by
                intro Lq aq wq hd hj Kq hK
                have fg := hj.val 5 62 rfl rfl (by simp) rfl (hd ⟨5, .guard⟩ (by simp) rfl)
                rw [wanted_some (c := false) rfl rfl rfl fg, if_pos (by rfl)]
                have f66 := hj.val 9 66 rfl rfl (by simp) rfl (hd ⟨9, .data⟩ (by simp) rfl)
                exact opIndexB hK rfl (j := o1) (ev f66) rfl Try.underlying59 infoSl1 (by omega) (by (try simp only [List.length_cons]); omega) (by simp) rfl),
              (by
                intro Lq aq wq hd hj Kq hK
                have fg := hj.val 5 62 rfl rfl (by simp) rfl (hd ⟨5, .guard⟩ (by simp) rfl)
                rw [wanted_some (c := false) rfl rfl rfl fg, if_pos (by rfl)]
                have f67 := hj.val 10 67 rfl rfl (by simp) rfl (hd ⟨10, .data⟩ (by simp) rfl)
                first
                  | exact opLoad hK rfl (ev f67) Try.underlying22 rfl (Ext.cell ((Ext.refl None_ _).drew.trans0 hj.ext) c0 (fun a => a)) rfl
                  | exact opLoad hK rfl (ev f67) Try.underlying22 rfl (Ext.cell ((Ext.refl None_ _).drew.trans0 hj.ext) c1 (fun a => a)) rfl
                  | exact opLoad hK rfl (ev f67) Try.underlying22 rfl (Ext.cell ((Ext.refl None_ _).drew.trans0 hj.ext) c2 (fun a => a)) rfl
                  | exact opLoad hK rfl (ev f67) Try.underlying22 rfl (Ext.cell ((Ext.refl None_ _).drew.trans0 hj.ext) c3 (fun a => a)) rfl
                  | exact opLoad hK rfl (ev f67) Try.underlying22 rfl (Ext.cell ((Ext.refl None_ _).drew.trans0 hj.ext) k1 (fun a => a)) rfl
                  | exact opLoad hK rfl (ev f67) Try.underlying22 rfl (Ext.cell ((Ext.refl None_ _).drew.trans0 hj.ext) k2 (fun a => a)) rfl),
              (by
                intro Lq aq wq hd hj Kq hK
                have fg := hj.val 5 62 rfl rfl (by simp) rfl (hd ⟨5, .guard⟩ (by simp) rfl)
                rw [wanted_some (c := false) rfl rfl rfl fg, if_pos (by rfl)]
                have f0 := hj.base 0 rfl rfl
                exact opMove hK rfl (ev f0) rfl),
              (by
                intro Lq aq wq hd hj Kq hK
                have fg := hj.val 5 62 rfl rfl (by simp) rfl (hd ⟨5, .guard⟩ (by simp) rfl)
                rw [wanted_some (c := false) rfl rfl rfl fg, if_pos (by rfl)]
                have f69 := hj.val 12 69 rfl rfl (by simp) rfl (hd ⟨12, .data⟩ (by simp) rfl)
                exact opNil hK rfl (ev f69) rfl),
              (by
                intro Lq aq wq hd hj Kq hK
                have fg := hj.val 5 62 rfl rfl (by simp) rfl (hd ⟨5, .guard⟩ (by simp) rfl)
                rw [wanted_some (c := false) rfl rfl rfl fg, if_pos (by rfl)]
                have f70 := hj.val 13 70 rfl rfl (by simp) rfl (hd ⟨13, .data⟩ (by simp) rfl)
                exact opFieldA hK rfl (k := 1) (ev f70) (fun W => by kernel_rfl) rfl),
              (by
                intro Lq aq wq hd hj Kq hK
                have fg := hj.val 5 62 rfl rfl (by simp) rfl (hd ⟨5, .guard⟩ (by simp) rfl)
                rw [wanted_some (c := false) rfl rfl rfl fg, if_pos (by rfl)]
                have f71 := hj.val 14 71 rfl rfl (by simp) rfl (hd ⟨14, .data⟩ (by simp) rfl)
                first
                  | exact opLoad hK rfl (ev f71) Try.underlying59 rfl (Ext.cell ((Ext.refl None_ _).drew.trans0 hj.ext) c0 (fun a => a)) rfl
                  | exact opLoad hK rfl (ev f71) Try.underlying59 rfl (Ext.cell ((Ext.refl None_ _).drew.trans0 hj.ext) c1 (fun a => a)) rfl
                  | exact opLoad hK rfl (ev f71) Try.underlying59 rfl (Ext.cell ((Ext.refl None_ _).drew.trans0 hj.ext) c2 (fun a => a)) rfl
                  | exact opLoad hK rfl (ev f71) Try.underlying59 rfl (Ext.cell ((Ext.refl None_ _).drew.trans0 hj.ext) c3 (fun a => a)) rfl
                  | exact opLoad hK rfl (ev f71) Try.underlying59 rfl (Ext.cell ((Ext.refl None_ _).drew.trans0 hj.ext) k1 (fun a => a)) rfl
                  | exact opLoad hK rfl (ev f71) Try.underlying59 rfl (Ext.cell ((Ext.refl None_ _).drew.trans0 hj.ext) k2 (fun a => a)) rfl),
              (by
                intro Lq aq wq hd hj Kq hK
                have fg := hj.val 5 62 rfl rfl (by simp) rfl (hd ⟨5, .guard⟩ (by simp) rfl)
                rw [wanted_some (c := false) rfl rfl rfl fg, if_pos (by rfl)]
                have f72 := hj.val 15 72 rfl rfl (by simp) rfl (hd ⟨15, .data⟩ (by simp) rfl)
                exact opIndexB hK rfl (j := o2) (ev f72) rfl Try.underlying59 infoSl1 (by omega) (by (try simp only [List.length_cons]); omega) (by simp) rfl),
              (by
                intro Lq aq wq hd hj Kq hK
                have fg := hj.val 5 62 rfl rfl (by simp) rfl (hd ⟨5, .guard⟩ (by simp) rfl)
                rw [wanted_some (c := false) rfl rfl rfl fg, if_pos (by rfl)]
                have f73 := hj.val 16 73 rfl rfl (by simp) rfl (hd ⟨16, .data⟩ (by simp) rfl)
                first
                  | exact opLoad hK rfl (ev f73) Try.underlying22 rfl (Ext.cell ((Ext.refl None_ _).drew.trans0 hj.ext) c0 (fun a => a)) rfl
                  | exact opLoad hK rfl (ev f73) Try.underlying22 rfl (Ext.cell ((Ext.refl None_ _).drew.trans0 hj.ext) c1 (fun a => a)) rfl
                  | exact opLoad hK rfl (ev f73) Try.underlying22 rfl (Ext.cell ((Ext.refl None_ _).drew.trans0 hj.ext) c2 (fun a => a)) rfl
                  | exact opLoad hK rfl (ev f73) Try.underlying22 rfl (Ext.cell ((Ext.refl None_ _).drew.trans0 hj.ext) c3 (fun a => a)) rfl
                  | exact opLoad hK rfl (ev f73) Try.underlying22 rfl (Ext.cell ((Ext.refl None_ _).drew.trans0 hj.ext) k1 (fun a => a)) rfl
                  | exact opLoad hK rfl (ev f73) Try.underlying22 rfl (Ext.cell ((Ext.refl None_ _).drew.trans0 hj.ext) k2 (fun a => a)) rfl),
              (by
                intro Lq aq wq hd hj Kq hK
                have fg := hj.val 5 62 rfl rfl (by simp) rfl (hd ⟨5, .guard⟩ (by simp) rfl)
                rw [wanted_some (c := false) rfl rfl rfl fg, if_pos (by rfl)]
                have f68 := hj.val 11 68 rfl rfl (by simp) rfl (hd ⟨11, .data⟩ (by simp) rfl)
                have f74 := hj.val 17 74 rfl rfl (by simp) rfl (hd ⟨17, .data⟩ (by simp) rfl)
                exact opCall hK Try.func25 (by kernel_rfl) rfl (args := #[.slice Ay yl.length cy, .slice A2 yl.length cc2]) (by simp [ev f68, ev f74]) ((same_any Ay cy yl A2 cc2 yl _ (HRY.out.ext0 ((Ext.refl None_ _).drew.trans0 hj.ext)) (HRD.out.ext0 ((Ext.refl None_ _).drew.trans0 hj.ext)) hyl hyl).mono fun e w' ⟨h1, h2⟩ => ⟨_, h1, congrArg Value.bool (by simp), h2⟩)),
              (by
                intro Lq aq wq hd hj Kq hK
                have fg := hj.val 5 62 rfl rfl (by simp) rfl (hd ⟨5, .guard⟩ (by simp) rfl)
                rw [wanted_some (c := false) rfl rfl rfl fg, if_pos (by rfl)]
                have f75 := hj.val 18 75 rfl rfl (by simp) rfl (hd ⟨18, .data⟩ (by simp) rfl)
                exact opNot hK rfl (ev f75) rfl),
              (by
                intro Lq aq wq hd hj Kq hK
                rw [if_pos (wanted_none rfl)]
                have f62 := hj.val 5 62 rfl rfl (by simp) rfl (hd ⟨5, .data⟩ (by simp) rfl)
                have f76 := hj.val 19 76 rfl rfl (by simp) rfl (hd ⟨19, .data⟩ (by simp) rfl)
                exact opPick hK rfl (b := false) (ev f62) ((if_neg (by decide)).trans (ev f76)) rfl),
              (by
                intro Lq aq wq hd hj Kq hK
                rw [if_pos (wanted_none rfl)]
                have f57 := hj.val 0 57 rfl rfl (by simp) rfl (hd ⟨0, .data⟩ (by simp) rfl)
                exact opNil hK rfl (ev f57) rfl),
              (by
                intro Lq aq wq hd hj Kq hK
                rw [if_pos (wanted_none rfl)]
                have f78 := hj.val 21 78 rfl rfl (by simp) rfl (hd ⟨21, .data⟩ (by simp) rfl)
                exact opFieldA hK rfl (k := 3) (ev f78) (fun W => by kernel_rfl) rfl),
              trivial⟩ ?fin
            case fin =>
              intro vs w9 hx hg
              have v20 : vs 20 = _ := hg 20 (by decide)
              have v22 : vs 22 = _ := hg 22 (by decide)
              have hxx := (Ext.refl None_ _).drew.trans0 hx
              have HC9 := Lib.hid (HC.out.ext0 hxx)
              have HE9 := Lib.hid (HE1.out.trans0 hxx)
              have HT19 := Lib.hid (HT1.out.ext0 hxx)
              have HT29 := Lib.hid (HT2.out.ext0 hxx)
              have j1 := hxx.cell k1 (fun a => a)
              have j2 := hxx.cell k2 (fun a => a)
              clear hx hg c0 c1 c2 c3 k1 k2 dz HC HE1 HRY HRD HT1 HT2
              simp only [List.dropLast, List.getLast?, List.getLast, Option.toList, putAll, v20, v22, Nat.reduceAdd, Nat.zero_add]
              simp only [Act.put, List.setIfInBounds_toArray, List.set_cons_succ, List.set_cons_zero]
              have r0 := Blk.cell HC9.out.blk 3
              have rz := Blk.frozen HC9.out.blk
              clear hxx
              go_wp2_with fail
              obtain ⟨wT, hwT⟩ : ∃ wT, wT = w9.setCell ⟨gb, 3, none⟩ (.bool false) := ⟨_, rfl⟩
              rw [← hwT]
              have hct := HC9.out.good e2
              have hxt : Ext (fun k => k = gb) w9 wT := by rw [hwT]; exact (Ext.refl (fun k => k = gb) w9).setCell (p := ⟨gb, 3, none⟩) (.inl rfl) _
              have HET := Lib.hid (HE9.out.trans hxt (fun k _ e => e))
              have hg1 : ¬ g1 = gb := fun e => by have := (HC9.out.b1 g1 rfl).1; omega
              have hg2 : ¬ g2 = gb := fun e => by have := HC9.out.b2 g2 rfl; omega
              have hcell1 := hxt.cell j1 hg1
              have hcell2 := hxt.cell j2 hg2
              rw [← hwT] at hct
              have HTT1 := Lib.hid (HT19.out.ext hxt (fun k e hk => by have := (HC9.out.b1 k (HTB1.out k e)).1; have hk : k = gb := hk; omega))
              have HTT2 := Lib.hid (HT29.out.ext hxt (fun k e hk => by have := HC9.out.b2 k (HTB2.out k e); have hk : k = gb := hk; omega))
              have HCT := Lib.hid hct
              have c0 := Blk.cell hct.blk 0
              have c1 := Blk.cell hct.blk 1
              have c2 := Blk.cell hct.blk 2
              have c3 := Blk.cell hct.blk 3
              have k1 := hcell1
              have k2 := hcell2
              simp only [List.map_cons, List.length_cons, List.length_map] at c0 c1
              clear hwT hxt hct hcell1 hcell2 j1 j2 HC9 HE9 HT19 HT29 r0 rz
              refine wp_region_last [sv _, sv _, sv _, sv _, sv _, sv _, sv _, sv _, sv _, sv _, sv _, sv _, sv _, sv _, sv _, sv _] (by kernel_rfl) rfl rfl rfl rfl rfl (by decide) ⟨
                (by
                  intro Lq aq wq hd hj Kq hK
                  rw [if_pos (wanted_none rfl)]
                  have f0 := hj.base 0 rfl rfl
                  exact opMove hK rfl (ev f0) rfl),
                (by
                  intro Lq aq wq hd hj Kq hK
                  rw [if_pos (wanted_none rfl)]
                  have f0 := hj.base 0 rfl rfl
                  exact opMove hK rfl (ev f0) rfl),
                (by
                  intro Lq aq wq hd hj Kq hK
                  rw [if_pos (wanted_none rfl)]
                  have f81 := hj.val 1 81 rfl rfl (by simp) rfl (hd ⟨1, .data⟩ (by simp) rfl)
                  exact opNil hK rfl (ev f81) rfl),
                (by
                  intro Lq aq wq hd hj Kq hK
                  rw [if_pos (wanted_none rfl)]
                  have f82 := hj.val 2 82 rfl rfl (by simp) rfl (hd ⟨2, .data⟩ (by simp) rfl)
                  exact opFieldA hK rfl (k := 2) (ev f82) (fun W => by kernel_rfl) rfl),
                (by
                  intro Lq aq wq hd hj Kq hK
                  rw [if_pos (wanted_none rfl)]
                  have f83 := hj.val 3 83 rfl rfl (by simp) rfl (hd ⟨3, .data⟩ (by simp) rfl)
                  first
                    | exact opLoad hK rfl (ev f83) Try.underlying3 rfl (Ext.cell ((Ext.refl None_ _).drew.trans0 hj.ext) c0 (fun a => a)) rfl
                    | exact opLoad hK rfl (ev f83) Try.underlying3 rfl (Ext.cell ((Ext.refl None_ _).drew.trans0 hj.ext) c1 (fun a => a)) rfl
                    | exact opLoad hK rfl (ev f83) Try.underlying3 rfl (Ext.cell ((Ext.refl None_ _).drew.trans0 hj.ext) c2 (fun a => a)) rfl
                    | exact opLoad hK rfl (ev f83) Try.underlying3 rfl (Ext.cell ((Ext.refl None_ _).drew.trans0 hj.ext) c3 (fun a => a)) rfl
                    | exact opLoad hK rfl (ev f83) Try.underlying3 rfl (Ext.cell ((Ext.refl None_ _).drew.trans0 hj.ext) k1 (fun a => a)) rfl
                    | exact opLoad hK rfl (ev f83) Try.underlying3 rfl (Ext.cell ((Ext.refl None_ _).drew.trans0 hj.ext) k2 (fun a => a)) rfl),
                (by
                  intro Lq aq wq hd hj Kq hK
                  rw [if_pos (wanted_none rfl)]
                  have f0 := hj.base 0 rfl rfl
                  exact opMove hK rfl (ev f0) rfl),
                (by
                  intro Lq aq wq hd hj Kq hK
                  rw [if_pos (wanted_none rfl)]
                  have f85 := hj.val 5 85 rfl rfl (by simp) rfl (hd ⟨5, .data⟩ (by simp) rfl)
                  exact opNil hK rfl (ev f85) rfl),
                (by
                  intro Lq aq wq hd hj Kq hK
                  rw [if_pos (wanted_none rfl)]
                  have f86 := hj.val 6 86 rfl rfl (by simp) rfl (hd ⟨6, .data⟩ (by simp) rfl)
                  exact opFieldA hK rfl (k := 0) (ev f86) (fun W => by kernel_rfl) rfl),
                (by
                  intro Lq aq wq hd hj Kq hK
                  rw [if_pos (wanted_none rfl)]
                  have f87 := hj.val 7 87 rfl rfl (by simp) rfl (hd ⟨7, .data⟩ (by simp) rfl)
                  first
                    | exact opLoad hK rfl (ev f87) Try.underlying59 rfl (Ext.cell ((Ext.refl None_ _).drew.trans0 hj.ext) c0 (fun a => a)) rfl
                    | exact opLoad hK rfl (ev f87) Try.underlying59 rfl (Ext.cell ((Ext.refl None_ _).drew.trans0 hj.ext) c1 (fun a => a)) rfl
                    | exact opLoad hK rfl (ev f87) Try.underlying59 rfl (Ext.cell ((Ext.refl None_ _).drew.trans0 hj.ext) c2 (fun a => a)) rfl
                    | exact opLoad hK rfl (ev f87) Try.underlying59 rfl (Ext.cell ((Ext.refl None_ _).drew.trans0 hj.ext) c3 (fun a => a)) rfl
                    | exact opLoad hK rfl (ev f87) Try.underlying59 rfl (Ext.cell ((Ext.refl None_ _).drew.trans0 hj.ext) k1 (fun a => a)) rfl
                    | exact opLoad hK rfl (ev f87) Try.underlying59 rfl (Ext.cell ((Ext.refl None_ _).drew.trans0 hj.ext) k2 (fun a => a)) rfl),
                (by
                  intro Lq aq wq hd hj Kq hK
                  rw [if_pos (wanted_none rfl)]
                  have f88 := hj.val 8 88 rfl rfl (by simp) rfl (hd ⟨8, .data⟩ (by simp) rfl)
                  exact opIndexB hK rfl (j := o1) (ev f88) rfl Try.underlying59 infoSl1 (by omega) (by (try simp only [List.length_cons]); omega) (by simp) rfl),
                (by
                  intro Lq aq wq hd hj Kq hK
                  rw [if_pos (wanted_none rfl)]
                  have f89 := hj.val 9 89 rfl rfl (by simp) rfl (hd ⟨9, .data⟩ (by simp) rfl)
                  first
                    | exact opLoad hK rfl (ev f89) Try.underlying22 rfl (Ext.cell ((Ext.refl None_ _).drew.trans0 hj.ext) c0 (fun a => a)) rfl
                    | exact opLoad hK rfl (ev f89) Try.underlying22 rfl (Ext.cell ((Ext.refl None_ _).drew.trans0 hj.ext) c1 (fun a => a)) rfl
                    | exact opLoad hK rfl (ev f89) Try.underlying22 rfl (Ext.cell ((Ext.refl None_ _).drew.trans0 hj.ext) c2 (fun a => a)) rfl
                    | exact opLoad hK rfl (ev f89) Try.underlying22 rfl (Ext.cell ((Ext.refl None_ _).drew.trans0 hj.ext) c3 (fun a => a)) rfl
                    | exact opLoad hK rfl (ev f89) Try.underlying22 rfl (Ext.cell ((Ext.refl None_ _).drew.trans0 hj.ext) k1 (fun a => a)) rfl
                    | exact opLoad hK rfl (ev f89) Try.underlying22 rfl (Ext.cell ((Ext.refl None_ _).drew.trans0 hj.ext) k2 (fun a => a)) rfl),
                (by
                  intro Lq aq wq hd hj Kq hK
                  rw [if_pos (wanted_none rfl)]
                  have f90 := hj.val 10 90 rfl rfl (by simp) rfl (hd ⟨10, .data⟩ (by simp) rfl)
                  exact opCap hK rfl (ev f90) (by kernel_rfl) rfl),
                (by
                  intro Lq aq wq hd hj Kq hK
                  rw [if_pos (wanted_none rfl)]
                  have f84 := hj.val 4 84 rfl rfl (by simp) rfl (hd ⟨4, .data⟩ (by simp) rfl)
                  have f91 := hj.val 11 91 rfl rfl (by simp) rfl (hd ⟨11, .data⟩ (by simp) rfl)
                  exact opBin hK rfl (ev f84) (ev f91) (guardInt _ _ _ _ _ _ _ _ _) (binSubW _ _ _ _ _) rfl),
                (by
                  intro Lq aq wq hd hj Kq hK
                  rw [if_pos (wanted_none rfl)]
                  have f92 := hj.val 12 92 rfl rfl (by simp) rfl (hd ⟨12, .data⟩ (by simp) rfl)
                  exact opBin hK rfl (ev f92) rfl (guardInt _ _ _ _ _ _ _ _ _) (binSubW _ _ _ _ _) rfl),
                (by
                  intro Lq aq wq hd hj Kq hK
                  rw [if_pos (wanted_none rfl)]
                  have f80 := hj.val 0 80 rfl rfl (by simp) rfl (hd ⟨0, .data⟩ (by simp) rfl)
                  exact opNil hK rfl (ev f80) rfl),
                (by
                  intro Lq aq wq hd hj Kq hK
                  rw [if_pos (wanted_none rfl)]
                  have f94 := hj.val 14 94 rfl rfl (by simp) rfl (hd ⟨14, .data⟩ (by simp) rfl)
                  exact opFieldA hK rfl (k := 2) (ev f94) (fun W => by kernel_rfl) rfl),
                trivial⟩ ?fin
              case fin =>
                intro vs2 w10 hx hg
                have v13 : vs2 13 = _ := hg 13 (by decide)
                have v15 : vs2 15 = _ := hg 15 (by decide)
                have hxx := (Ext.refl None_ _).drew.trans0 hx
                have HCU := Lib.hid ((HCT.out.ext0 hxx).held e2 (I64_wrap (wrap64 (h - cy) - 1)))
                have hxu : Ext (fun k => k = gb) w10 (w10.setCell ⟨gb, 2, none⟩ (.int .i64 (wrap64 (wrap64 (h - cy) - 1)))) := (Ext.refl (fun k => k = gb) w10).setCell (p := ⟨gb, 2, none⟩) (.inl rfl) _
                have HEU := Lib.hid ((HET.out.trans0 hxx).trans hxu (fun k _ e => e))
                have HU1 := Lib.hid ((HTT1.out.ext0 hxx).ext hxu (fun k e hk => by have := (HCT.out.b1 k (HTB1.out k e)).1; have hk : k = gb := hk; omega))
                have HU2 := Lib.hid ((HTT2.out.ext0 hxx).ext hxu (fun k e hk => by have := HCT.out.b2 k (HTB2.out k e); have hk : k = gb := hk; omega))
                have r0 := Blk.cell (HCT.out.ext0 hxx).blk 0
                have r1 := Blk.cell (HCT.out.ext0 hxx).blk 1
                have r2 := Blk.cell (HCT.out.ext0 hxx).blk 2
                have rz := Blk.frozen (HCT.out.ext0 hxx).blk
                simp only [List.map_cons, List.length_cons, List.length_map] at r0 r1
                clear hx hg hxx hxu c0 c1 c2 c3 k1 k2 HCT HET HTT1 HTT2
                simp only [List.dropLast, List.getLast?, List.getLast, Option.toList, putAll, v13, v15, Nat.reduceAdd, Nat.zero_add]
                simp only [Act.put, List.setIfInBounds_toArray, List.set_cons_succ, List.set_cons_zero]
                go_wp2_with fail
                have hpop := HCU.out.pop e2 HU1.out HU2.out HTB1.out HTB2.out
                rw [List.length_map] at hpop
                have HPOP := Lib.hid hpop
                clear hpop
                have hKT : KX.drop (n + 1) = KT := by
                  have := congrArg (List.drop 1) HKD.out
                  rw [List.drop_drop] at this
                  simpa using this.symm
                go_roundw
                case rel => exact ⟨n + 1, Lib.hid (by rw [hKT]; exact ⟨(HEU.out.setCell (p := ⟨gb, 0, none⟩) (.inl rfl) _).setCell (p := ⟨gb, 1, none⟩) (.inl rfl) _, e2, fun x hx => HE3.out x (List.mem_cons_of_mem _ hx), (List.pairwise_cons.1 HE4.out).2, _, _, _, _, HPOP.out⟩), by rw [hKT]; omega⟩
                case measure =>
                  rw [hmeas, tabLen_eq (Blk.cell HPOP.out.blk 0)]
                  simp
          · obtain ⟨B1, b1, rfl, _⟩ := hc.t1.isSl
            have c0 := Blk.cell hc.blk 0
            have c2 := Blk.cell hc.blk 2
            simp only [List.length_map] at c0 c2
            clear hc e1 e3 e4
            go_wp2_with fail
            go_end0
            exact ⟨rfl, n, by rw [← HKD.out]; exact hbk.out, by have := congrArg List.length HKD.out; simp only [List.length_drop] at this ⊢; omega⟩
end Go.Proofs.Ytghkgfeamijefaa
