/- Chapter 15's statements, walked: CommandBack. Written by gen_l15d.py. -/
import Derived.Test.YtmobdofkiddfhaaCmdL4
import Derived.Test.YtmobdofkiddfhaaOpen
set_option linter.unusedVariables false
set_option linter.unusedSimpArgs false
namespace Go.Proofs.Ytmobdofkiddfhaa
open Go.RowKit B

theorem str_bytes15 (s : ByteArray) : strOfNums (bytesOf s) = s := by
  have h : (strOfNums (bytesOf s)).data.toList = s.data.toList := by
    rw [strOfNums_data]
    unfold bytesOf
    rw [List.map_map]
    have : ((fun n : Int => UInt8.ofNat n.toNat) ∘ fun b : UInt8 => (b.toNat : Int)) = id := by funext b; simp
    rw [this, List.map_id]
  exact ba_inj h
theorem str_take (l : List Int) (n : Nat) : (strOfNums l).extract 0 n = strOfNums (l.take n) := by
  apply ba_inj
  rw [ByteArray.data_extract, Array.toList_extract, strOfNums_data, strOfNums_data, List.map_take]
  simp [List.extract]
theorem str_app (l m : List Int) : strOfNums l ++ strOfNums m = strOfNums (l ++ m) := by
  apply ba_inj
  rw [strOfNums_data, List.map_append]
  show ((strOfNums l).append (strOfNums m)).data.toList = _
  rw [ByteArray.append_eq, ByteArray.data_append, Array.toList_append, strOfNums_data, strOfNums_data]
theorem within_in (n : Int) (hi : Nat) : ∃ k : Nat, within n 0 (hi : Int) = (k : Int) ∧ k ≤ hi := by
  have h1 := Int.emod_nonneg n (show (hi : Int) - 0 + 1 ≠ 0 by omega)
  have h2 := Int.emod_lt_of_pos n (show 0 < (hi : Int) - 0 + 1 by omega)
  refine ⟨(within n 0 hi).toNat, ?_, ?_⟩ <;> unfold within <;> omega

set_option maxRecDepth 100000 in
set_option maxHeartbeats 16000000 in
theorem backFT (q : Rq) (kq : q.ok) (at_ : Int) (hat : I64 at_) (s : ByteArray) (hs : s.size ≤ 140737488351232) (w : World) (hr : rightB q.c = false) (hg : (decR (bytesOf s)).2 = 0) :
    Calls Try.prog 14 #[.agg #[.int .i64 q.ses, .int .i64 q.seq, .int .i64 q.c.kind, .int .i64 q.c.o.id, .int .i64 q.c.o.size, .int .i64 q.c.o.pick.p, .int .i64 q.c.o.pick.f, .int .i64 q.c.o.pick.t, .int .i64 q.c.o.pick.s, .int .i64 q.c.o.drop.p, .int .i64 q.c.o.drop.f, .int .i64 q.c.o.drop.t, .int .i64 q.c.o.drop.s, .int .i64 q.c.d.id, .int .i64 q.c.d.room, .int .i64 q.c.d.home, .int .i64 q.c.d.f, .int .i64 q.c.d.t, .bool q.c.d.ret, .int .i64 q.c.id, .int .i64 q.c.count], .int .i64 at_, .string s] w fun e w' => e = .returned (.bool true) ∧ Ext None_ w w' := by
  have HRUNS := Lib.hid runs15_any
  have HR := Lib.hid (rightF q.c hr)
  have HE := fun W => encode_any q W kq
  rw [show encR q = [] from by unfold encR; rw [hr]; rfl, show strOfNums [] = ⟨#[]⟩ from rfl] at HE
  unfold Rq.cells at HE
  have HE := Lib.hid HE
  have HDS := fun W => decode_any s W (by omega)
  obtain ⟨p, hp⟩ : ∃ p, p = decR (bytesOf s) := ⟨_, rfl⟩
  obtain ⟨g1, g2, g3⟩ := good15 (Byt_of s) hg
  rw [hg] at HDS
  rw [← hp] at HDS g1 g2 g3
  have HES := fun W => encode_any p.1 W g3
  rw [g2, str_bytes15] at HES
  have HRS := Lib.hid (rightT p.1.c g1)
  unfold Rq.cells at HES HDS
  have HES := Lib.hid HES
  have HDS := Lib.hid HDS
  clear g1 g2 g3 hp hg
  clear hr kq hs hat
  have HB := Lib.hid (Blk.new w #[.int .i64 q.ses, .int .i64 q.seq, .int .i64 q.c.kind, .int .i64 q.c.o.id, .int .i64 q.c.o.size, .int .i64 q.c.o.pick.p, .int .i64 q.c.o.pick.f, .int .i64 q.c.o.pick.t, .int .i64 q.c.o.pick.s, .int .i64 q.c.o.drop.p, .int .i64 q.c.o.drop.f, .int .i64 q.c.o.drop.t, .int .i64 q.c.o.drop.s, .int .i64 q.c.d.id, .int .i64 q.c.d.room, .int .i64 q.c.d.home, .int .i64 q.c.d.f, .int .i64 q.c.d.t, .bool q.c.d.ret, .int .i64 q.c.id, .int .i64 q.c.count] 70)
  go_enter Try.func14, Try.ntmps14
  go_wp2_with (refine wpList_load_row rfl 70 (.tmp 3) rfl w.heap.size rfl 70 _ (0, 0) _ HB.out Try.underlying70 rfl rqSize ?_)
  refine (HE.out _).mono ?_
  rintro e w1 ⟨rfl, x1⟩
  have X1 : Hid (Ext None_ w w1) := Lib.hid ((x0 _ _).trans0 x1)
  have HB1 := Lib.hid (HB.out.ext0 x1)
  clear x1 HB
  go_wp2_with (refine wpList_load_mid rfl 68 (.tmp 18) rfl w.heap.size 2 rfl [.int .i64 q.c.kind, .int .i64 q.c.o.id, .int .i64 q.c.o.size, .int .i64 q.c.o.pick.p, .int .i64 q.c.o.pick.f, .int .i64 q.c.o.pick.t, .int .i64 q.c.o.pick.s, .int .i64 q.c.o.drop.p, .int .i64 q.c.o.drop.f, .int .i64 q.c.o.drop.t, .int .i64 q.c.o.drop.s, .int .i64 q.c.d.id, .int .i64 q.c.d.room, .int .i64 q.c.d.home, .int .i64 q.c.d.f, .int .i64 q.c.d.t, .bool q.c.d.ret, .int .i64 q.c.id, .int .i64 q.c.count] _ (HB1.out.range 2 _ rfl) Try.underlying68 rfl cmdSize ?_)
  refine (HR.out _).mono ?_
  rintro e w2 ⟨rfl, x2⟩
  have X2 : Hid (Ext None_ w w2) := Lib.hid (X1.out.trans0 x2)
  have HB2 := Lib.hid (HB1.out.ext0 x2)
  clear x2 HB1
  go_wp2_with fail
  refine (HDS.out _).mono ?_
  rintro e w6 ⟨rfl, x6⟩
  have X6 : Hid (Ext None_ w w6) := Lib.hid (X2.out.trans0 x6)
  clear x6
  have HS6 := Lib.hid (Blk.new w6 #[.int .i64 p.1.ses, .int .i64 p.1.seq, .int .i64 p.1.c.kind, .int .i64 p.1.c.o.id, .int .i64 p.1.c.o.size, .int .i64 p.1.c.o.pick.p, .int .i64 p.1.c.o.pick.f, .int .i64 p.1.c.o.pick.t, .int .i64 p.1.c.o.pick.s, .int .i64 p.1.c.o.drop.p, .int .i64 p.1.c.o.drop.f, .int .i64 p.1.c.o.drop.t, .int .i64 p.1.c.o.drop.s, .int .i64 p.1.c.d.id, .int .i64 p.1.c.d.room, .int .i64 p.1.c.d.home, .int .i64 p.1.c.d.f, .int .i64 p.1.c.d.t, .bool p.1.c.d.ret, .int .i64 p.1.c.id, .int .i64 p.1.c.count] 70)
  go_wp2_with (first | (refine wpList_load_mid rfl 68 (.tmp 77) rfl w6.heap.size 2 rfl [.int .i64 p.1.c.kind, .int .i64 p.1.c.o.id, .int .i64 p.1.c.o.size, .int .i64 p.1.c.o.pick.p, .int .i64 p.1.c.o.pick.f, .int .i64 p.1.c.o.pick.t, .int .i64 p.1.c.o.pick.s, .int .i64 p.1.c.o.drop.p, .int .i64 p.1.c.o.drop.f, .int .i64 p.1.c.o.drop.t, .int .i64 p.1.c.o.drop.s, .int .i64 p.1.c.d.id, .int .i64 p.1.c.d.room, .int .i64 p.1.c.d.home, .int .i64 p.1.c.d.f, .int .i64 p.1.c.d.t, .bool p.1.c.d.ret, .int .i64 p.1.c.id, .int .i64 p.1.c.count] _ (HS6.out.range 2 _ rfl) Try.underlying68 rfl cmdSize ?_) | (refine wpList_store_new rfl 70 (.tmp 14) (.tmp 67) rfl w6.heap.size rfl #[.int .i64 0, .int .i64 0, .int .i64 0, .int .i64 0, .int .i64 0, .int .i64 0, .int .i64 0, .int .i64 0, .int .i64 0, .int .i64 0, .int .i64 0, .int .i64 0, .int .i64 0, .int .i64 0, .int .i64 0, .int .i64 0, .int .i64 0, .int .i64 0, .bool false, .int .i64 0, .int .i64 0] #[.int .i64 p.1.ses, .int .i64 p.1.seq, .int .i64 p.1.c.kind, .int .i64 p.1.c.o.id, .int .i64 p.1.c.o.size, .int .i64 p.1.c.o.pick.p, .int .i64 p.1.c.o.pick.f, .int .i64 p.1.c.o.pick.t, .int .i64 p.1.c.o.pick.s, .int .i64 p.1.c.o.drop.p, .int .i64 p.1.c.o.drop.f, .int .i64 p.1.c.o.drop.t, .int .i64 p.1.c.o.drop.s, .int .i64 p.1.c.d.id, .int .i64 p.1.c.d.room, .int .i64 p.1.c.d.home, .int .i64 p.1.c.d.f, .int .i64 p.1.c.d.t, .bool p.1.c.d.ret, .int .i64 p.1.c.id, .int .i64 p.1.c.count] rfl rfl 70 rqSize rfl rfl ?_))
  refine (HRS.out _).mono ?_
  rintro e w7 ⟨rfl, x7⟩
  have X7 : Hid (Ext None_ w w7) := Lib.hid ((X6.out.alloc _).trans0 x7)
  have HS7 := Lib.hid (HS6.out.ext0 x7)
  clear x7 HS6
  go_wp2_with (refine wpList_load_mid_g (by rfl) 70 (.tmp 14) rfl w6.heap.size 0 rfl [.int .i64 p.1.ses, .int .i64 p.1.seq, .int .i64 p.1.c.kind, .int .i64 p.1.c.o.id, .int .i64 p.1.c.o.size, .int .i64 p.1.c.o.pick.p, .int .i64 p.1.c.o.pick.f, .int .i64 p.1.c.o.pick.t, .int .i64 p.1.c.o.pick.s, .int .i64 p.1.c.o.drop.p, .int .i64 p.1.c.o.drop.f, .int .i64 p.1.c.o.drop.t, .int .i64 p.1.c.o.drop.s, .int .i64 p.1.c.d.id, .int .i64 p.1.c.d.room, .int .i64 p.1.c.d.home, .int .i64 p.1.c.d.f, .int .i64 p.1.c.d.t, .bool p.1.c.d.ret, .int .i64 p.1.c.id, .int .i64 p.1.c.count] _ (HS7.out.range 0 _ rfl) Try.underlying70 rfl rqSize ?_)
  refine (HES.out _).mono ?_
  rintro e w8 ⟨rfl, x8⟩
  have X8 : Hid (Ext None_ w w8) := Lib.hid (X7.out.trans0 x8)
  clear x8 HS7
  go_wp2_with fail
  refine (HRUNS.out _).mono ?_
  rintro e w9 ⟨rfl, x9⟩
  have X9 : Hid (Ext None_ w w9) := Lib.hid (X8.out.trans0 x9)
  clear x9
  go_wp2_with fail
  go_ret
  exact ⟨rfl, X9.out⟩

set_option maxRecDepth 100000 in
set_option maxHeartbeats 16000000 in
theorem backFF (q : Rq) (kq : q.ok) (at_ : Int) (hat : I64 at_) (s : ByteArray) (hs : s.size ≤ 140737488351232) (w : World) (hr : rightB q.c = false) (hg : ¬ (decR (bytesOf s)).2 = 0) :
    Calls Try.prog 14 #[.agg #[.int .i64 q.ses, .int .i64 q.seq, .int .i64 q.c.kind, .int .i64 q.c.o.id, .int .i64 q.c.o.size, .int .i64 q.c.o.pick.p, .int .i64 q.c.o.pick.f, .int .i64 q.c.o.pick.t, .int .i64 q.c.o.pick.s, .int .i64 q.c.o.drop.p, .int .i64 q.c.o.drop.f, .int .i64 q.c.o.drop.t, .int .i64 q.c.o.drop.s, .int .i64 q.c.d.id, .int .i64 q.c.d.room, .int .i64 q.c.d.home, .int .i64 q.c.d.f, .int .i64 q.c.d.t, .bool q.c.d.ret, .int .i64 q.c.id, .int .i64 q.c.count], .int .i64 at_, .string s] w fun e w' => e = .returned (.bool true) ∧ Ext None_ w w' := by
  have HRUNS := Lib.hid runs15_any
  have HR := Lib.hid (rightF q.c hr)
  have HE := fun W => encode_any q W kq
  rw [show encR q = [] from by unfold encR; rw [hr]; rfl, show strOfNums [] = ⟨#[]⟩ from rfl] at HE
  unfold Rq.cells at HE
  have HE := Lib.hid HE
  have HDS := fun W => decode_any s W (by omega)
  obtain ⟨p, hp⟩ : ∃ p, p = decR (bytesOf s) := ⟨_, rfl⟩
  rw [bad15 hg] at HDS
  obtain ⟨ef, hef⟩ : ∃ ef, ef = (decR (bytesOf s)).2 := ⟨_, rfl⟩
  rw [← hef] at HDS hg
  have hne : (ef != 0) = true := neF hg
  have HDS := Lib.hid (show ∀ W : World, Calls Try.prog 41 #[.string s] W fun e w' => e = .returned (.tuple #[.agg #[.int .i64 0, .int .i64 0, .int .i64 0, .int .i64 0, .int .i64 0, .int .i64 0, .int .i64 0, .int .i64 0, .int .i64 0, .int .i64 0, .int .i64 0, .int .i64 0, .int .i64 0, .int .i64 0, .int .i64 0, .int .i64 0, .int .i64 0, .int .i64 0, .bool false, .int .i64 0, .int .i64 0], .int .i64 ef]) ∧ Ext None_ W w' from HDS)
  have qz : ∀ W : World, (Op.equalIn 10000 70 (.agg #[.int .i64 0, .int .i64 0, .int .i64 0, .int .i64 0, .int .i64 0, .int .i64 0, .int .i64 0, .int .i64 0, .int .i64 0, .int .i64 0, .int .i64 0, .int .i64 0, .int .i64 0, .int .i64 0, .int .i64 0, .int .i64 0, .int .i64 0, .int .i64 0, .bool false, .int .i64 0, .int .i64 0]) (.agg #[.int .i64 0, .int .i64 0, .int .i64 0, .int .i64 0, .int .i64 0, .int .i64 0, .int .i64 0, .int .i64 0, .int .i64 0, .int .i64 0, .int .i64 0, .int .i64 0, .int .i64 0, .int .i64 0, .int .i64 0, .int .i64 0, .int .i64 0, .int .i64 0, .bool false, .int .i64 0, .int .i64 0])).run Try.prog W = .ok true W := fun W => (eqRq rq0 rq0 W).trans (by rw [(rqEq_iff rq0 rq0).2 rfl])
  clear hef hp hg
  clear hr kq hs hat
  have HB := Lib.hid (Blk.new w #[.int .i64 q.ses, .int .i64 q.seq, .int .i64 q.c.kind, .int .i64 q.c.o.id, .int .i64 q.c.o.size, .int .i64 q.c.o.pick.p, .int .i64 q.c.o.pick.f, .int .i64 q.c.o.pick.t, .int .i64 q.c.o.pick.s, .int .i64 q.c.o.drop.p, .int .i64 q.c.o.drop.f, .int .i64 q.c.o.drop.t, .int .i64 q.c.o.drop.s, .int .i64 q.c.d.id, .int .i64 q.c.d.room, .int .i64 q.c.d.home, .int .i64 q.c.d.f, .int .i64 q.c.d.t, .bool q.c.d.ret, .int .i64 q.c.id, .int .i64 q.c.count] 70)
  go_enter Try.func14, Try.ntmps14
  go_wp2_with (refine wpList_load_row rfl 70 (.tmp 3) rfl w.heap.size rfl 70 _ (0, 0) _ HB.out Try.underlying70 rfl rqSize ?_)
  refine (HE.out _).mono ?_
  rintro e w1 ⟨rfl, x1⟩
  have X1 : Hid (Ext None_ w w1) := Lib.hid ((x0 _ _).trans0 x1)
  have HB1 := Lib.hid (HB.out.ext0 x1)
  clear x1 HB
  go_wp2_with (refine wpList_load_mid rfl 68 (.tmp 18) rfl w.heap.size 2 rfl [.int .i64 q.c.kind, .int .i64 q.c.o.id, .int .i64 q.c.o.size, .int .i64 q.c.o.pick.p, .int .i64 q.c.o.pick.f, .int .i64 q.c.o.pick.t, .int .i64 q.c.o.pick.s, .int .i64 q.c.o.drop.p, .int .i64 q.c.o.drop.f, .int .i64 q.c.o.drop.t, .int .i64 q.c.o.drop.s, .int .i64 q.c.d.id, .int .i64 q.c.d.room, .int .i64 q.c.d.home, .int .i64 q.c.d.f, .int .i64 q.c.d.t, .bool q.c.d.ret, .int .i64 q.c.id, .int .i64 q.c.count] _ (HB1.out.range 2 _ rfl) Try.underlying68 rfl cmdSize ?_)
  refine (HR.out _).mono ?_
  rintro e w2 ⟨rfl, x2⟩
  have X2 : Hid (Ext None_ w w2) := Lib.hid (X1.out.trans0 x2)
  have HB2 := Lib.hid (HB1.out.ext0 x2)
  clear x2 HB1
  go_wp2_with fail
  refine (HDS.out _).mono ?_
  rintro e w6 ⟨rfl, x6⟩
  have X6 : Hid (Ext None_ w w6) := Lib.hid (X2.out.trans0 x6)
  clear x6
  have HS6 := Lib.hid (Blk.new w6 #[.int .i64 0, .int .i64 0, .int .i64 0, .int .i64 0, .int .i64 0, .int .i64 0, .int .i64 0, .int .i64 0, .int .i64 0, .int .i64 0, .int .i64 0, .int .i64 0, .int .i64 0, .int .i64 0, .int .i64 0, .int .i64 0, .int .i64 0, .int .i64 0, .bool false, .int .i64 0, .int .i64 0] 70)
  go_wp2_with (first | (refine wpList_load_row rfl 70 (.tmp 14) rfl w6.heap.size rfl 70 _ (0, 0) _ HS6.out Try.underlying70 rfl rqSize ?_) | (refine wpList_store_new rfl 70 (.tmp 14) (.tmp 67) rfl w6.heap.size rfl #[.int .i64 0, .int .i64 0, .int .i64 0, .int .i64 0, .int .i64 0, .int .i64 0, .int .i64 0, .int .i64 0, .int .i64 0, .int .i64 0, .int .i64 0, .int .i64 0, .int .i64 0, .int .i64 0, .int .i64 0, .int .i64 0, .int .i64 0, .int .i64 0, .bool false, .int .i64 0, .int .i64 0] #[.int .i64 0, .int .i64 0, .int .i64 0, .int .i64 0, .int .i64 0, .int .i64 0, .int .i64 0, .int .i64 0, .int .i64 0, .int .i64 0, .int .i64 0, .int .i64 0, .int .i64 0, .int .i64 0, .int .i64 0, .int .i64 0, .int .i64 0, .int .i64 0, .bool false, .int .i64 0, .int .i64 0] rfl rfl 70 rqSize rfl rfl ?_))
  refine (HRUNS.out _).mono ?_
  rintro e w9 ⟨rfl, x9⟩
  have X9 : Hid (Ext None_ w w9) := Lib.hid ((X6.out.alloc _).trans0 x9)
  clear x9
  go_wp2_with fail
  go_ret
  exact ⟨rfl, X9.out⟩

set_option maxRecDepth 100000 in
set_option maxHeartbeats 16000000 in
theorem backTT (q : Rq) (kq : q.ok) (at_ : Int) (hat : I64 at_) (s : ByteArray) (hs : s.size ≤ 140737488351232) (w : World) (hr : rightB q.c = true) (hg : (decR (bytesOf s)).2 = 0) :
    Calls Try.prog 14 #[.agg #[.int .i64 q.ses, .int .i64 q.seq, .int .i64 q.c.kind, .int .i64 q.c.o.id, .int .i64 q.c.o.size, .int .i64 q.c.o.pick.p, .int .i64 q.c.o.pick.f, .int .i64 q.c.o.pick.t, .int .i64 q.c.o.pick.s, .int .i64 q.c.o.drop.p, .int .i64 q.c.o.drop.f, .int .i64 q.c.o.drop.t, .int .i64 q.c.o.drop.s, .int .i64 q.c.d.id, .int .i64 q.c.d.room, .int .i64 q.c.d.home, .int .i64 q.c.d.f, .int .i64 q.c.d.t, .bool q.c.d.ret, .int .i64 q.c.id, .int .i64 q.c.count], .int .i64 at_, .string s] w fun e w' => e = .returned (.bool true) ∧ Ext None_ w w' := by
  have HRUNS := Lib.hid runs15_any
  have HR := Lib.hid (rightT q.c hr)
  have HE := fun W => encode_any q W kq
  have hl1 := len15 hr kq
  have hl2 : (encR q).length ≤ 1000 := by
    rw [encR_eq hr]
    have := encF_len ([.n, .n, .n] ++ fm (nmd q.c.kind)) ([q.ses, q.seq, q.c.kind] ++ vl (nmd q.c.kind) q.c)
    have h2 : (fm (nmd q.c.kind)).length ≤ 18 := by unfold fm gO gD gI gC fO fD; simp only [List.length_append]; (repeat' split) <;> simp
    rw [List.length_append] at this
    simp only [List.length_cons, List.length_nil] at this
    omega
  have HD1 := fun W => decLit (encR q) q 0 (byt15 hr kq) (by omega) (back15 hr kq) W
  obtain ⟨n, hn1, hn2⟩ := within_in at_ ((encR q).length - 1)
  obtain ⟨p2, hp2⟩ : ∃ p, p = (decR ((encR q).take n)).1 := ⟨_, rfl⟩
  have HD2 := fun W => decLit ((encR q).take n) p2 3 (fun x hx => byt15 hr kq x (List.mem_of_mem_take hx)) (by rw [List.length_take]; omega) (Prod.ext hp2.symm (cut15 hr kq n (by omega))) W
  obtain ⟨p3, hp3⟩ : ∃ p, p = (decR (encR q ++ [97])).1 := ⟨_, rfl⟩
  have HD3 := fun W => decLit (encR q ++ [97]) p3 5 (byt_append (byt15 hr kq) (by decide)) (by rw [List.length_append]; simp; omega) (Prod.ext hp3.symm (tail15 hr kq 97)) W
  rw [← str_take] at HD2
  rw [← str_app, show strOfNums [97] = ⟨#[97]⟩ from rfl] at HD3
  obtain ⟨S, hS⟩ : ∃ S, S = strOfNums (encR q) := ⟨_, rfl⟩
  have hsz : S.size = (encR q).length := by rw [hS, strOfNums_size]
  rw [← hS] at HE HD1 HD2 HD3
  have hs4 : 4 ≤ S.size := by omega
  have hs5 : S.size ≤ 1000 := by omega
  have hnn : n < S.size := by omega
  have hw : within at_ 0 ((S.size : Int) - 1) = (n : Int) := by rw [← hn1]; congr 1; omega
  have HW := Lib.hid hw
  have hsl : ∀ W : World, (Instr.slice 9 (.string S) none (some (.int .i64 (n : Int))) none).run Try.prog W = .ok (.string (S.extract 0 n)) W := fun W => by
    have := run_slice_string_h (P := Try.prog) W 9 S Try.underlying9 .i64 (n : Int) (by omega) (by omega)
    simpa using this
  have hadd : ∀ W : World, (Op.stringOp .add S ⟨#[97]⟩).run Try.prog W = .ok (.string (S ++ ⟨#[97]⟩)) W := fun W => run_string_add_sum W S ⟨#[97]⟩ (by have : (⟨#[97]⟩ : ByteArray).size = 1 := rfl; omega)
  obtain ⟨S2, hS2⟩ : ∃ S2, S2 = S.extract 0 n := ⟨_, rfl⟩
  obtain ⟨S3, hS3⟩ : ∃ S3, S3 = S ++ ⟨#[97]⟩ := ⟨_, rfl⟩
  rw [← hS2] at HD2
  rw [← hS3] at HD3
  simp only [← hS2] at hsl
  simp only [← hS3] at hadd
  have HWI := Lib.hid (fun W => within_any at_ 0 ((S.size : Int) - 1) W hat (by omega) (by omega) (by omega))
  have hl4 : decide ((S.size : Int) < 4) = false := decide_eq_false (by omega)
  clear hS hsz hS2 hS3 hl1 hl2 hn1 hn2 hp2 hp3 hw
  unfold Rq.cells at HD1 HD2 HD3
  have HD1 := Lib.hid HD1
  have HD2 := Lib.hid HD2
  have HD3 := Lib.hid HD3
  unfold Rq.cells at HE
  have HE := Lib.hid HE
  have HDS := fun W => decode_any s W (by omega)
  obtain ⟨p, hp⟩ : ∃ p, p = decR (bytesOf s) := ⟨_, rfl⟩
  obtain ⟨g1, g2, g3⟩ := good15 (Byt_of s) hg
  rw [hg] at HDS
  rw [← hp] at HDS g1 g2 g3
  have HES := fun W => encode_any p.1 W g3
  rw [g2, str_bytes15] at HES
  have HRS := Lib.hid (rightT p.1.c g1)
  unfold Rq.cells at HES HDS
  have HES := Lib.hid HES
  have HDS := Lib.hid HDS
  clear g1 g2 g3 hp hg
  have qe : ∀ W : World, (Op.equalIn 10000 70 (.agg #[.int .i64 q.ses, .int .i64 q.seq, .int .i64 q.c.kind, .int .i64 q.c.o.id, .int .i64 q.c.o.size, .int .i64 q.c.o.pick.p, .int .i64 q.c.o.pick.f, .int .i64 q.c.o.pick.t, .int .i64 q.c.o.pick.s, .int .i64 q.c.o.drop.p, .int .i64 q.c.o.drop.f, .int .i64 q.c.o.drop.t, .int .i64 q.c.o.drop.s, .int .i64 q.c.d.id, .int .i64 q.c.d.room, .int .i64 q.c.d.home, .int .i64 q.c.d.f, .int .i64 q.c.d.t, .bool q.c.d.ret, .int .i64 q.c.id, .int .i64 q.c.count]) (.agg #[.int .i64 q.ses, .int .i64 q.seq, .int .i64 q.c.kind, .int .i64 q.c.o.id, .int .i64 q.c.o.size, .int .i64 q.c.o.pick.p, .int .i64 q.c.o.pick.f, .int .i64 q.c.o.pick.t, .int .i64 q.c.o.pick.s, .int .i64 q.c.o.drop.p, .int .i64 q.c.o.drop.f, .int .i64 q.c.o.drop.t, .int .i64 q.c.o.drop.s, .int .i64 q.c.d.id, .int .i64 q.c.d.room, .int .i64 q.c.d.home, .int .i64 q.c.d.f, .int .i64 q.c.d.t, .bool q.c.d.ret, .int .i64 q.c.id, .int .i64 q.c.count])).run Try.prog W = .ok true W := fun W => (eqRq q q W).trans (by rw [(rqEq_iff q q).2 rfl])
  clear hr kq hs hat
  have HB := Lib.hid (Blk.new w #[.int .i64 q.ses, .int .i64 q.seq, .int .i64 q.c.kind, .int .i64 q.c.o.id, .int .i64 q.c.o.size, .int .i64 q.c.o.pick.p, .int .i64 q.c.o.pick.f, .int .i64 q.c.o.pick.t, .int .i64 q.c.o.pick.s, .int .i64 q.c.o.drop.p, .int .i64 q.c.o.drop.f, .int .i64 q.c.o.drop.t, .int .i64 q.c.o.drop.s, .int .i64 q.c.d.id, .int .i64 q.c.d.room, .int .i64 q.c.d.home, .int .i64 q.c.d.f, .int .i64 q.c.d.t, .bool q.c.d.ret, .int .i64 q.c.id, .int .i64 q.c.count] 70)
  go_enter Try.func14, Try.ntmps14
  go_wp2_with (refine wpList_load_row rfl 70 (.tmp 3) rfl w.heap.size rfl 70 _ (0, 0) _ HB.out Try.underlying70 rfl rqSize ?_)
  refine (HE.out _).mono ?_
  rintro e w1 ⟨rfl, x1⟩
  have X1 : Hid (Ext None_ w w1) := Lib.hid ((x0 _ _).trans0 x1)
  have HB1 := Lib.hid (HB.out.ext0 x1)
  clear x1 HB
  go_wp2_with (refine wpList_load_mid rfl 68 (.tmp 18) rfl w.heap.size 2 rfl [.int .i64 q.c.kind, .int .i64 q.c.o.id, .int .i64 q.c.o.size, .int .i64 q.c.o.pick.p, .int .i64 q.c.o.pick.f, .int .i64 q.c.o.pick.t, .int .i64 q.c.o.pick.s, .int .i64 q.c.o.drop.p, .int .i64 q.c.o.drop.f, .int .i64 q.c.o.drop.t, .int .i64 q.c.o.drop.s, .int .i64 q.c.d.id, .int .i64 q.c.d.room, .int .i64 q.c.d.home, .int .i64 q.c.d.f, .int .i64 q.c.d.t, .bool q.c.d.ret, .int .i64 q.c.id, .int .i64 q.c.count] _ (HB1.out.range 2 _ rfl) Try.underlying68 rfl cmdSize ?_)
  refine (HR.out _).mono ?_
  rintro e w2 ⟨rfl, x2⟩
  have X2 : Hid (Ext None_ w w2) := Lib.hid (X1.out.trans0 x2)
  have HB2 := Lib.hid (HB1.out.ext0 x2)
  clear x2 HB1
  go_wp2_with fail
  refine (HD1.out _).mono ?_
  rintro e w3 ⟨rfl, x3⟩
  have X3 : Hid (Ext None_ w w3) := Lib.hid (X2.out.trans0 x3)
  have HB3 := Lib.hid ((HB2.out.ext0 x3).alloc (.cells #[.int .i64 q.ses, .int .i64 q.seq, .int .i64 q.c.kind, .int .i64 q.c.o.id, .int .i64 q.c.o.size, .int .i64 q.c.o.pick.p, .int .i64 q.c.o.pick.f, .int .i64 q.c.o.pick.t, .int .i64 q.c.o.pick.s, .int .i64 q.c.o.drop.p, .int .i64 q.c.o.drop.f, .int .i64 q.c.o.drop.t, .int .i64 q.c.o.drop.s, .int .i64 q.c.d.id, .int .i64 q.c.d.room, .int .i64 q.c.d.home, .int .i64 q.c.d.f, .int .i64 q.c.d.t, .bool q.c.d.ret, .int .i64 q.c.id, .int .i64 q.c.count] 70))
  have HQ3 := Lib.hid (Blk.new w3 #[.int .i64 q.ses, .int .i64 q.seq, .int .i64 q.c.kind, .int .i64 q.c.o.id, .int .i64 q.c.o.size, .int .i64 q.c.o.pick.p, .int .i64 q.c.o.pick.f, .int .i64 q.c.o.pick.t, .int .i64 q.c.o.pick.s, .int .i64 q.c.o.drop.p, .int .i64 q.c.o.drop.f, .int .i64 q.c.o.drop.t, .int .i64 q.c.o.drop.s, .int .i64 q.c.d.id, .int .i64 q.c.d.room, .int .i64 q.c.d.home, .int .i64 q.c.d.f, .int .i64 q.c.d.t, .bool q.c.d.ret, .int .i64 q.c.id, .int .i64 q.c.count] 70)
  clear x3 HB2
  go_wp2_with (first | (refine wpList_load_row rfl 70 (.tmp 8) rfl w3.heap.size rfl 70 _ (0, 0) _ HQ3.out Try.underlying70 rfl rqSize ?_) | (refine wpList_load_row rfl 70 (.tmp 3) rfl w.heap.size rfl 70 _ (0, 0) _ HB3.out Try.underlying70 rfl rqSize ?_) | (refine wpList_store_new rfl 70 (.tmp 8) (.tmp 27) rfl w3.heap.size rfl #[.int .i64 0, .int .i64 0, .int .i64 0, .int .i64 0, .int .i64 0, .int .i64 0, .int .i64 0, .int .i64 0, .int .i64 0, .int .i64 0, .int .i64 0, .int .i64 0, .int .i64 0, .int .i64 0, .int .i64 0, .int .i64 0, .int .i64 0, .int .i64 0, .bool false, .int .i64 0, .int .i64 0] #[.int .i64 q.ses, .int .i64 q.seq, .int .i64 q.c.kind, .int .i64 q.c.o.id, .int .i64 q.c.o.size, .int .i64 q.c.o.pick.p, .int .i64 q.c.o.pick.f, .int .i64 q.c.o.pick.t, .int .i64 q.c.o.pick.s, .int .i64 q.c.o.drop.p, .int .i64 q.c.o.drop.f, .int .i64 q.c.o.drop.t, .int .i64 q.c.o.drop.s, .int .i64 q.c.d.id, .int .i64 q.c.d.room, .int .i64 q.c.d.home, .int .i64 q.c.d.f, .int .i64 q.c.d.t, .bool q.c.d.ret, .int .i64 q.c.id, .int .i64 q.c.count] rfl rfl 70 rqSize rfl rfl ?_))
  refine (HWI.out _).mono ?_
  rw [HW.out]
  rintro e w0 ⟨rfl, rfl⟩
  go_wp2_with fail
  refine (HD2.out _).mono ?_
  rintro e w4 ⟨rfl, x4⟩
  have X4 : Hid (Ext None_ w w4) := Lib.hid ((X3.out.alloc _).trans0 x4)
  clear x4 HB3 HQ3
  go_wp2_with (refine wpList_store_new rfl 70 (.tmp 10) (.tmp 50) rfl w4.heap.size rfl #[.int .i64 0, .int .i64 0, .int .i64 0, .int .i64 0, .int .i64 0, .int .i64 0, .int .i64 0, .int .i64 0, .int .i64 0, .int .i64 0, .int .i64 0, .int .i64 0, .int .i64 0, .int .i64 0, .int .i64 0, .int .i64 0, .int .i64 0, .int .i64 0, .bool false, .int .i64 0, .int .i64 0] #[.int .i64 p2.ses, .int .i64 p2.seq, .int .i64 p2.c.kind, .int .i64 p2.c.o.id, .int .i64 p2.c.o.size, .int .i64 p2.c.o.pick.p, .int .i64 p2.c.o.pick.f, .int .i64 p2.c.o.pick.t, .int .i64 p2.c.o.pick.s, .int .i64 p2.c.o.drop.p, .int .i64 p2.c.o.drop.f, .int .i64 p2.c.o.drop.t, .int .i64 p2.c.o.drop.s, .int .i64 p2.c.d.id, .int .i64 p2.c.d.room, .int .i64 p2.c.d.home, .int .i64 p2.c.d.f, .int .i64 p2.c.d.t, .bool p2.c.d.ret, .int .i64 p2.c.id, .int .i64 p2.c.count] rfl rfl 70 rqSize rfl rfl ?_)
  refine (HD3.out _).mono ?_
  rintro e w5 ⟨rfl, x5⟩
  have X5 : Hid (Ext None_ w w5) := Lib.hid ((X4.out.alloc _).trans0 x5)
  clear x5
  go_wp2_with (refine wpList_store_new rfl 70 (.tmp 12) (.tmp 56) rfl w5.heap.size rfl #[.int .i64 0, .int .i64 0, .int .i64 0, .int .i64 0, .int .i64 0, .int .i64 0, .int .i64 0, .int .i64 0, .int .i64 0, .int .i64 0, .int .i64 0, .int .i64 0, .int .i64 0, .int .i64 0, .int .i64 0, .int .i64 0, .int .i64 0, .int .i64 0, .bool false, .int .i64 0, .int .i64 0] #[.int .i64 p3.ses, .int .i64 p3.seq, .int .i64 p3.c.kind, .int .i64 p3.c.o.id, .int .i64 p3.c.o.size, .int .i64 p3.c.o.pick.p, .int .i64 p3.c.o.pick.f, .int .i64 p3.c.o.pick.t, .int .i64 p3.c.o.pick.s, .int .i64 p3.c.o.drop.p, .int .i64 p3.c.o.drop.f, .int .i64 p3.c.o.drop.t, .int .i64 p3.c.o.drop.s, .int .i64 p3.c.d.id, .int .i64 p3.c.d.room, .int .i64 p3.c.d.home, .int .i64 p3.c.d.f, .int .i64 p3.c.d.t, .bool p3.c.d.ret, .int .i64 p3.c.id, .int .i64 p3.c.count] rfl rfl 70 rqSize rfl rfl ?_)
  refine (HDS.out _).mono ?_
  rintro e w6 ⟨rfl, x6⟩
  have X6 : Hid (Ext None_ w w6) := Lib.hid ((X5.out.alloc _).trans0 x6)
  clear x6
  have HS6 := Lib.hid (Blk.new w6 #[.int .i64 p.1.ses, .int .i64 p.1.seq, .int .i64 p.1.c.kind, .int .i64 p.1.c.o.id, .int .i64 p.1.c.o.size, .int .i64 p.1.c.o.pick.p, .int .i64 p.1.c.o.pick.f, .int .i64 p.1.c.o.pick.t, .int .i64 p.1.c.o.pick.s, .int .i64 p.1.c.o.drop.p, .int .i64 p.1.c.o.drop.f, .int .i64 p.1.c.o.drop.t, .int .i64 p.1.c.o.drop.s, .int .i64 p.1.c.d.id, .int .i64 p.1.c.d.room, .int .i64 p.1.c.d.home, .int .i64 p.1.c.d.f, .int .i64 p.1.c.d.t, .bool p.1.c.d.ret, .int .i64 p.1.c.id, .int .i64 p.1.c.count] 70)
  go_wp2_with (first | (refine wpList_load_mid rfl 68 (.tmp 77) rfl w6.heap.size 2 rfl [.int .i64 p.1.c.kind, .int .i64 p.1.c.o.id, .int .i64 p.1.c.o.size, .int .i64 p.1.c.o.pick.p, .int .i64 p.1.c.o.pick.f, .int .i64 p.1.c.o.pick.t, .int .i64 p.1.c.o.pick.s, .int .i64 p.1.c.o.drop.p, .int .i64 p.1.c.o.drop.f, .int .i64 p.1.c.o.drop.t, .int .i64 p.1.c.o.drop.s, .int .i64 p.1.c.d.id, .int .i64 p.1.c.d.room, .int .i64 p.1.c.d.home, .int .i64 p.1.c.d.f, .int .i64 p.1.c.d.t, .bool p.1.c.d.ret, .int .i64 p.1.c.id, .int .i64 p.1.c.count] _ (HS6.out.range 2 _ rfl) Try.underlying68 rfl cmdSize ?_) | (refine wpList_store_new rfl 70 (.tmp 14) (.tmp 67) rfl w6.heap.size rfl #[.int .i64 0, .int .i64 0, .int .i64 0, .int .i64 0, .int .i64 0, .int .i64 0, .int .i64 0, .int .i64 0, .int .i64 0, .int .i64 0, .int .i64 0, .int .i64 0, .int .i64 0, .int .i64 0, .int .i64 0, .int .i64 0, .int .i64 0, .int .i64 0, .bool false, .int .i64 0, .int .i64 0] #[.int .i64 p.1.ses, .int .i64 p.1.seq, .int .i64 p.1.c.kind, .int .i64 p.1.c.o.id, .int .i64 p.1.c.o.size, .int .i64 p.1.c.o.pick.p, .int .i64 p.1.c.o.pick.f, .int .i64 p.1.c.o.pick.t, .int .i64 p.1.c.o.pick.s, .int .i64 p.1.c.o.drop.p, .int .i64 p.1.c.o.drop.f, .int .i64 p.1.c.o.drop.t, .int .i64 p.1.c.o.drop.s, .int .i64 p.1.c.d.id, .int .i64 p.1.c.d.room, .int .i64 p.1.c.d.home, .int .i64 p.1.c.d.f, .int .i64 p.1.c.d.t, .bool p.1.c.d.ret, .int .i64 p.1.c.id, .int .i64 p.1.c.count] rfl rfl 70 rqSize rfl rfl ?_))
  refine (HRS.out _).mono ?_
  rintro e w7 ⟨rfl, x7⟩
  have X7 : Hid (Ext None_ w w7) := Lib.hid ((X6.out.alloc _).trans0 x7)
  have HS7 := Lib.hid (HS6.out.ext0 x7)
  clear x7 HS6
  go_wp2_with (refine wpList_load_mid_g (by rfl) 70 (.tmp 14) rfl w6.heap.size 0 rfl [.int .i64 p.1.ses, .int .i64 p.1.seq, .int .i64 p.1.c.kind, .int .i64 p.1.c.o.id, .int .i64 p.1.c.o.size, .int .i64 p.1.c.o.pick.p, .int .i64 p.1.c.o.pick.f, .int .i64 p.1.c.o.pick.t, .int .i64 p.1.c.o.pick.s, .int .i64 p.1.c.o.drop.p, .int .i64 p.1.c.o.drop.f, .int .i64 p.1.c.o.drop.t, .int .i64 p.1.c.o.drop.s, .int .i64 p.1.c.d.id, .int .i64 p.1.c.d.room, .int .i64 p.1.c.d.home, .int .i64 p.1.c.d.f, .int .i64 p.1.c.d.t, .bool p.1.c.d.ret, .int .i64 p.1.c.id, .int .i64 p.1.c.count] _ (HS7.out.range 0 _ rfl) Try.underlying70 rfl rqSize ?_)
  refine (HES.out _).mono ?_
  rintro e w8 ⟨rfl, x8⟩
  have X8 : Hid (Ext None_ w w8) := Lib.hid (X7.out.trans0 x8)
  clear x8 HS7
  go_wp2_with fail
  refine (HRUNS.out _).mono ?_
  rintro e w9 ⟨rfl, x9⟩
  have X9 : Hid (Ext None_ w w9) := Lib.hid (X8.out.trans0 x9)
  clear x9
  go_wp2_with fail
  go_ret
  exact ⟨rfl, X9.out⟩

set_option maxRecDepth 100000 in
set_option maxHeartbeats 16000000 in
theorem backTF (q : Rq) (kq : q.ok) (at_ : Int) (hat : I64 at_) (s : ByteArray) (hs : s.size ≤ 140737488351232) (w : World) (hr : rightB q.c = true) (hg : ¬ (decR (bytesOf s)).2 = 0) :
    Calls Try.prog 14 #[.agg #[.int .i64 q.ses, .int .i64 q.seq, .int .i64 q.c.kind, .int .i64 q.c.o.id, .int .i64 q.c.o.size, .int .i64 q.c.o.pick.p, .int .i64 q.c.o.pick.f, .int .i64 q.c.o.pick.t, .int .i64 q.c.o.pick.s, .int .i64 q.c.o.drop.p, .int .i64 q.c.o.drop.f, .int .i64 q.c.o.drop.t, .int .i64 q.c.o.drop.s, .int .i64 q.c.d.id, .int .i64 q.c.d.room, .int .i64 q.c.d.home, .int .i64 q.c.d.f, .int .i64 q.c.d.t, .bool q.c.d.ret, .int .i64 q.c.id, .int .i64 q.c.count], .int .i64 at_, .string s] w fun e w' => e = .returned (.bool true) ∧ Ext None_ w w' := by
  have HRUNS := Lib.hid runs15_any
  have HR := Lib.hid (rightT q.c hr)
  have HE := fun W => encode_any q W kq
  have hl1 := len15 hr kq
  have hl2 : (encR q).length ≤ 1000 := by
    rw [encR_eq hr]
    have := encF_len ([.n, .n, .n] ++ fm (nmd q.c.kind)) ([q.ses, q.seq, q.c.kind] ++ vl (nmd q.c.kind) q.c)
    have h2 : (fm (nmd q.c.kind)).length ≤ 18 := by unfold fm gO gD gI gC fO fD; simp only [List.length_append]; (repeat' split) <;> simp
    rw [List.length_append] at this
    simp only [List.length_cons, List.length_nil] at this
    omega
  have HD1 := fun W => decLit (encR q) q 0 (byt15 hr kq) (by omega) (back15 hr kq) W
  obtain ⟨n, hn1, hn2⟩ := within_in at_ ((encR q).length - 1)
  obtain ⟨p2, hp2⟩ : ∃ p, p = (decR ((encR q).take n)).1 := ⟨_, rfl⟩
  have HD2 := fun W => decLit ((encR q).take n) p2 3 (fun x hx => byt15 hr kq x (List.mem_of_mem_take hx)) (by rw [List.length_take]; omega) (Prod.ext hp2.symm (cut15 hr kq n (by omega))) W
  obtain ⟨p3, hp3⟩ : ∃ p, p = (decR (encR q ++ [97])).1 := ⟨_, rfl⟩
  have HD3 := fun W => decLit (encR q ++ [97]) p3 5 (byt_append (byt15 hr kq) (by decide)) (by rw [List.length_append]; simp; omega) (Prod.ext hp3.symm (tail15 hr kq 97)) W
  rw [← str_take] at HD2
  rw [← str_app, show strOfNums [97] = ⟨#[97]⟩ from rfl] at HD3
  obtain ⟨S, hS⟩ : ∃ S, S = strOfNums (encR q) := ⟨_, rfl⟩
  have hsz : S.size = (encR q).length := by rw [hS, strOfNums_size]
  rw [← hS] at HE HD1 HD2 HD3
  have hs4 : 4 ≤ S.size := by omega
  have hs5 : S.size ≤ 1000 := by omega
  have hnn : n < S.size := by omega
  have hw : within at_ 0 ((S.size : Int) - 1) = (n : Int) := by rw [← hn1]; congr 1; omega
  have HW := Lib.hid hw
  have hsl : ∀ W : World, (Instr.slice 9 (.string S) none (some (.int .i64 (n : Int))) none).run Try.prog W = .ok (.string (S.extract 0 n)) W := fun W => by
    have := run_slice_string_h (P := Try.prog) W 9 S Try.underlying9 .i64 (n : Int) (by omega) (by omega)
    simpa using this
  have hadd : ∀ W : World, (Op.stringOp .add S ⟨#[97]⟩).run Try.prog W = .ok (.string (S ++ ⟨#[97]⟩)) W := fun W => run_string_add_sum W S ⟨#[97]⟩ (by have : (⟨#[97]⟩ : ByteArray).size = 1 := rfl; omega)
  obtain ⟨S2, hS2⟩ : ∃ S2, S2 = S.extract 0 n := ⟨_, rfl⟩
  obtain ⟨S3, hS3⟩ : ∃ S3, S3 = S ++ ⟨#[97]⟩ := ⟨_, rfl⟩
  rw [← hS2] at HD2
  rw [← hS3] at HD3
  simp only [← hS2] at hsl
  simp only [← hS3] at hadd
  have HWI := Lib.hid (fun W => within_any at_ 0 ((S.size : Int) - 1) W hat (by omega) (by omega) (by omega))
  have hl4 : decide ((S.size : Int) < 4) = false := decide_eq_false (by omega)
  clear hS hsz hS2 hS3 hl1 hl2 hn1 hn2 hp2 hp3 hw
  unfold Rq.cells at HD1 HD2 HD3
  have HD1 := Lib.hid HD1
  have HD2 := Lib.hid HD2
  have HD3 := Lib.hid HD3
  unfold Rq.cells at HE
  have HE := Lib.hid HE
  have HDS := fun W => decode_any s W (by omega)
  obtain ⟨p, hp⟩ : ∃ p, p = decR (bytesOf s) := ⟨_, rfl⟩
  rw [bad15 hg] at HDS
  obtain ⟨ef, hef⟩ : ∃ ef, ef = (decR (bytesOf s)).2 := ⟨_, rfl⟩
  rw [← hef] at HDS hg
  have hne : (ef != 0) = true := neF hg
  have HDS := Lib.hid (show ∀ W : World, Calls Try.prog 41 #[.string s] W fun e w' => e = .returned (.tuple #[.agg #[.int .i64 0, .int .i64 0, .int .i64 0, .int .i64 0, .int .i64 0, .int .i64 0, .int .i64 0, .int .i64 0, .int .i64 0, .int .i64 0, .int .i64 0, .int .i64 0, .int .i64 0, .int .i64 0, .int .i64 0, .int .i64 0, .int .i64 0, .int .i64 0, .bool false, .int .i64 0, .int .i64 0], .int .i64 ef]) ∧ Ext None_ W w' from HDS)
  have qz : ∀ W : World, (Op.equalIn 10000 70 (.agg #[.int .i64 0, .int .i64 0, .int .i64 0, .int .i64 0, .int .i64 0, .int .i64 0, .int .i64 0, .int .i64 0, .int .i64 0, .int .i64 0, .int .i64 0, .int .i64 0, .int .i64 0, .int .i64 0, .int .i64 0, .int .i64 0, .int .i64 0, .int .i64 0, .bool false, .int .i64 0, .int .i64 0]) (.agg #[.int .i64 0, .int .i64 0, .int .i64 0, .int .i64 0, .int .i64 0, .int .i64 0, .int .i64 0, .int .i64 0, .int .i64 0, .int .i64 0, .int .i64 0, .int .i64 0, .int .i64 0, .int .i64 0, .int .i64 0, .int .i64 0, .int .i64 0, .int .i64 0, .bool false, .int .i64 0, .int .i64 0])).run Try.prog W = .ok true W := fun W => (eqRq rq0 rq0 W).trans (by rw [(rqEq_iff rq0 rq0).2 rfl])
  clear hef hp hg
  have qe : ∀ W : World, (Op.equalIn 10000 70 (.agg #[.int .i64 q.ses, .int .i64 q.seq, .int .i64 q.c.kind, .int .i64 q.c.o.id, .int .i64 q.c.o.size, .int .i64 q.c.o.pick.p, .int .i64 q.c.o.pick.f, .int .i64 q.c.o.pick.t, .int .i64 q.c.o.pick.s, .int .i64 q.c.o.drop.p, .int .i64 q.c.o.drop.f, .int .i64 q.c.o.drop.t, .int .i64 q.c.o.drop.s, .int .i64 q.c.d.id, .int .i64 q.c.d.room, .int .i64 q.c.d.home, .int .i64 q.c.d.f, .int .i64 q.c.d.t, .bool q.c.d.ret, .int .i64 q.c.id, .int .i64 q.c.count]) (.agg #[.int .i64 q.ses, .int .i64 q.seq, .int .i64 q.c.kind, .int .i64 q.c.o.id, .int .i64 q.c.o.size, .int .i64 q.c.o.pick.p, .int .i64 q.c.o.pick.f, .int .i64 q.c.o.pick.t, .int .i64 q.c.o.pick.s, .int .i64 q.c.o.drop.p, .int .i64 q.c.o.drop.f, .int .i64 q.c.o.drop.t, .int .i64 q.c.o.drop.s, .int .i64 q.c.d.id, .int .i64 q.c.d.room, .int .i64 q.c.d.home, .int .i64 q.c.d.f, .int .i64 q.c.d.t, .bool q.c.d.ret, .int .i64 q.c.id, .int .i64 q.c.count])).run Try.prog W = .ok true W := fun W => (eqRq q q W).trans (by rw [(rqEq_iff q q).2 rfl])
  clear hr kq hs hat
  have HB := Lib.hid (Blk.new w #[.int .i64 q.ses, .int .i64 q.seq, .int .i64 q.c.kind, .int .i64 q.c.o.id, .int .i64 q.c.o.size, .int .i64 q.c.o.pick.p, .int .i64 q.c.o.pick.f, .int .i64 q.c.o.pick.t, .int .i64 q.c.o.pick.s, .int .i64 q.c.o.drop.p, .int .i64 q.c.o.drop.f, .int .i64 q.c.o.drop.t, .int .i64 q.c.o.drop.s, .int .i64 q.c.d.id, .int .i64 q.c.d.room, .int .i64 q.c.d.home, .int .i64 q.c.d.f, .int .i64 q.c.d.t, .bool q.c.d.ret, .int .i64 q.c.id, .int .i64 q.c.count] 70)
  go_enter Try.func14, Try.ntmps14
  go_wp2_with (refine wpList_load_row rfl 70 (.tmp 3) rfl w.heap.size rfl 70 _ (0, 0) _ HB.out Try.underlying70 rfl rqSize ?_)
  refine (HE.out _).mono ?_
  rintro e w1 ⟨rfl, x1⟩
  have X1 : Hid (Ext None_ w w1) := Lib.hid ((x0 _ _).trans0 x1)
  have HB1 := Lib.hid (HB.out.ext0 x1)
  clear x1 HB
  go_wp2_with (refine wpList_load_mid rfl 68 (.tmp 18) rfl w.heap.size 2 rfl [.int .i64 q.c.kind, .int .i64 q.c.o.id, .int .i64 q.c.o.size, .int .i64 q.c.o.pick.p, .int .i64 q.c.o.pick.f, .int .i64 q.c.o.pick.t, .int .i64 q.c.o.pick.s, .int .i64 q.c.o.drop.p, .int .i64 q.c.o.drop.f, .int .i64 q.c.o.drop.t, .int .i64 q.c.o.drop.s, .int .i64 q.c.d.id, .int .i64 q.c.d.room, .int .i64 q.c.d.home, .int .i64 q.c.d.f, .int .i64 q.c.d.t, .bool q.c.d.ret, .int .i64 q.c.id, .int .i64 q.c.count] _ (HB1.out.range 2 _ rfl) Try.underlying68 rfl cmdSize ?_)
  refine (HR.out _).mono ?_
  rintro e w2 ⟨rfl, x2⟩
  have X2 : Hid (Ext None_ w w2) := Lib.hid (X1.out.trans0 x2)
  have HB2 := Lib.hid (HB1.out.ext0 x2)
  clear x2 HB1
  go_wp2_with fail
  refine (HD1.out _).mono ?_
  rintro e w3 ⟨rfl, x3⟩
  have X3 : Hid (Ext None_ w w3) := Lib.hid (X2.out.trans0 x3)
  have HB3 := Lib.hid ((HB2.out.ext0 x3).alloc (.cells #[.int .i64 q.ses, .int .i64 q.seq, .int .i64 q.c.kind, .int .i64 q.c.o.id, .int .i64 q.c.o.size, .int .i64 q.c.o.pick.p, .int .i64 q.c.o.pick.f, .int .i64 q.c.o.pick.t, .int .i64 q.c.o.pick.s, .int .i64 q.c.o.drop.p, .int .i64 q.c.o.drop.f, .int .i64 q.c.o.drop.t, .int .i64 q.c.o.drop.s, .int .i64 q.c.d.id, .int .i64 q.c.d.room, .int .i64 q.c.d.home, .int .i64 q.c.d.f, .int .i64 q.c.d.t, .bool q.c.d.ret, .int .i64 q.c.id, .int .i64 q.c.count] 70))
  have HQ3 := Lib.hid (Blk.new w3 #[.int .i64 q.ses, .int .i64 q.seq, .int .i64 q.c.kind, .int .i64 q.c.o.id, .int .i64 q.c.o.size, .int .i64 q.c.o.pick.p, .int .i64 q.c.o.pick.f, .int .i64 q.c.o.pick.t, .int .i64 q.c.o.pick.s, .int .i64 q.c.o.drop.p, .int .i64 q.c.o.drop.f, .int .i64 q.c.o.drop.t, .int .i64 q.c.o.drop.s, .int .i64 q.c.d.id, .int .i64 q.c.d.room, .int .i64 q.c.d.home, .int .i64 q.c.d.f, .int .i64 q.c.d.t, .bool q.c.d.ret, .int .i64 q.c.id, .int .i64 q.c.count] 70)
  clear x3 HB2
  go_wp2_with (first | (refine wpList_load_row rfl 70 (.tmp 8) rfl w3.heap.size rfl 70 _ (0, 0) _ HQ3.out Try.underlying70 rfl rqSize ?_) | (refine wpList_load_row rfl 70 (.tmp 3) rfl w.heap.size rfl 70 _ (0, 0) _ HB3.out Try.underlying70 rfl rqSize ?_) | (refine wpList_store_new rfl 70 (.tmp 8) (.tmp 27) rfl w3.heap.size rfl #[.int .i64 0, .int .i64 0, .int .i64 0, .int .i64 0, .int .i64 0, .int .i64 0, .int .i64 0, .int .i64 0, .int .i64 0, .int .i64 0, .int .i64 0, .int .i64 0, .int .i64 0, .int .i64 0, .int .i64 0, .int .i64 0, .int .i64 0, .int .i64 0, .bool false, .int .i64 0, .int .i64 0] #[.int .i64 q.ses, .int .i64 q.seq, .int .i64 q.c.kind, .int .i64 q.c.o.id, .int .i64 q.c.o.size, .int .i64 q.c.o.pick.p, .int .i64 q.c.o.pick.f, .int .i64 q.c.o.pick.t, .int .i64 q.c.o.pick.s, .int .i64 q.c.o.drop.p, .int .i64 q.c.o.drop.f, .int .i64 q.c.o.drop.t, .int .i64 q.c.o.drop.s, .int .i64 q.c.d.id, .int .i64 q.c.d.room, .int .i64 q.c.d.home, .int .i64 q.c.d.f, .int .i64 q.c.d.t, .bool q.c.d.ret, .int .i64 q.c.id, .int .i64 q.c.count] rfl rfl 70 rqSize rfl rfl ?_))
  refine (HWI.out _).mono ?_
  rw [HW.out]
  rintro e w0 ⟨rfl, rfl⟩
  go_wp2_with fail
  refine (HD2.out _).mono ?_
  rintro e w4 ⟨rfl, x4⟩
  have X4 : Hid (Ext None_ w w4) := Lib.hid ((X3.out.alloc _).trans0 x4)
  clear x4 HB3 HQ3
  go_wp2_with (refine wpList_store_new rfl 70 (.tmp 10) (.tmp 50) rfl w4.heap.size rfl #[.int .i64 0, .int .i64 0, .int .i64 0, .int .i64 0, .int .i64 0, .int .i64 0, .int .i64 0, .int .i64 0, .int .i64 0, .int .i64 0, .int .i64 0, .int .i64 0, .int .i64 0, .int .i64 0, .int .i64 0, .int .i64 0, .int .i64 0, .int .i64 0, .bool false, .int .i64 0, .int .i64 0] #[.int .i64 p2.ses, .int .i64 p2.seq, .int .i64 p2.c.kind, .int .i64 p2.c.o.id, .int .i64 p2.c.o.size, .int .i64 p2.c.o.pick.p, .int .i64 p2.c.o.pick.f, .int .i64 p2.c.o.pick.t, .int .i64 p2.c.o.pick.s, .int .i64 p2.c.o.drop.p, .int .i64 p2.c.o.drop.f, .int .i64 p2.c.o.drop.t, .int .i64 p2.c.o.drop.s, .int .i64 p2.c.d.id, .int .i64 p2.c.d.room, .int .i64 p2.c.d.home, .int .i64 p2.c.d.f, .int .i64 p2.c.d.t, .bool p2.c.d.ret, .int .i64 p2.c.id, .int .i64 p2.c.count] rfl rfl 70 rqSize rfl rfl ?_)
  refine (HD3.out _).mono ?_
  rintro e w5 ⟨rfl, x5⟩
  have X5 : Hid (Ext None_ w w5) := Lib.hid ((X4.out.alloc _).trans0 x5)
  clear x5
  go_wp2_with (refine wpList_store_new rfl 70 (.tmp 12) (.tmp 56) rfl w5.heap.size rfl #[.int .i64 0, .int .i64 0, .int .i64 0, .int .i64 0, .int .i64 0, .int .i64 0, .int .i64 0, .int .i64 0, .int .i64 0, .int .i64 0, .int .i64 0, .int .i64 0, .int .i64 0, .int .i64 0, .int .i64 0, .int .i64 0, .int .i64 0, .int .i64 0, .bool false, .int .i64 0, .int .i64 0] #[.int .i64 p3.ses, .int .i64 p3.seq, .int .i64 p3.c.kind, .int .i64 p3.c.o.id, .int .i64 p3.c.o.size, .int .i64 p3.c.o.pick.p, .int .i64 p3.c.o.pick.f, .int .i64 p3.c.o.pick.t, .int .i64 p3.c.o.pick.s, .int .i64 p3.c.o.drop.p, .int .i64 p3.c.o.drop.f, .int .i64 p3.c.o.drop.t, .int .i64 p3.c.o.drop.s, .int .i64 p3.c.d.id, .int .i64 p3.c.d.room, .int .i64 p3.c.d.home, .int .i64 p3.c.d.f, .int .i64 p3.c.d.t, .bool p3.c.d.ret, .int .i64 p3.c.id, .int .i64 p3.c.count] rfl rfl 70 rqSize rfl rfl ?_)
  refine (HDS.out _).mono ?_
  rintro e w6 ⟨rfl, x6⟩
  have X6 : Hid (Ext None_ w w6) := Lib.hid ((X5.out.alloc _).trans0 x6)
  clear x6
  have HS6 := Lib.hid (Blk.new w6 #[.int .i64 0, .int .i64 0, .int .i64 0, .int .i64 0, .int .i64 0, .int .i64 0, .int .i64 0, .int .i64 0, .int .i64 0, .int .i64 0, .int .i64 0, .int .i64 0, .int .i64 0, .int .i64 0, .int .i64 0, .int .i64 0, .int .i64 0, .int .i64 0, .bool false, .int .i64 0, .int .i64 0] 70)
  go_wp2_with (first | (refine wpList_load_row rfl 70 (.tmp 14) rfl w6.heap.size rfl 70 _ (0, 0) _ HS6.out Try.underlying70 rfl rqSize ?_) | (refine wpList_store_new rfl 70 (.tmp 14) (.tmp 67) rfl w6.heap.size rfl #[.int .i64 0, .int .i64 0, .int .i64 0, .int .i64 0, .int .i64 0, .int .i64 0, .int .i64 0, .int .i64 0, .int .i64 0, .int .i64 0, .int .i64 0, .int .i64 0, .int .i64 0, .int .i64 0, .int .i64 0, .int .i64 0, .int .i64 0, .int .i64 0, .bool false, .int .i64 0, .int .i64 0] #[.int .i64 0, .int .i64 0, .int .i64 0, .int .i64 0, .int .i64 0, .int .i64 0, .int .i64 0, .int .i64 0, .int .i64 0, .int .i64 0, .int .i64 0, .int .i64 0, .int .i64 0, .int .i64 0, .int .i64 0, .int .i64 0, .int .i64 0, .int .i64 0, .bool false, .int .i64 0, .int .i64 0] rfl rfl 70 rqSize rfl rfl ?_))
  refine (HRUNS.out _).mono ?_
  rintro e w9 ⟨rfl, x9⟩
  have X9 : Hid (Ext None_ w w9) := Lib.hid ((X6.out.alloc _).trans0 x9)
  clear x9
  go_wp2_with fail
  go_ret
  exact ⟨rfl, X9.out⟩

theorem commandBack_row (q : Rq) (kq : q.ok) (at_ : Int) (hat : (Lit.int .i64 at_).wf = true) (s : ByteArray) (hs : s.size ≤ 140737488351232) {w : World} :
    Calls Try.prog 14 #[.agg #[.int .i64 q.ses, .int .i64 q.seq, .int .i64 q.c.kind, .int .i64 q.c.o.id, .int .i64 q.c.o.size, .int .i64 q.c.o.pick.p, .int .i64 q.c.o.pick.f, .int .i64 q.c.o.pick.t, .int .i64 q.c.o.pick.s, .int .i64 q.c.o.drop.p, .int .i64 q.c.o.drop.f, .int .i64 q.c.o.drop.t, .int .i64 q.c.o.drop.s, .int .i64 q.c.d.id, .int .i64 q.c.d.room, .int .i64 q.c.d.home, .int .i64 q.c.d.f, .int .i64 q.c.d.t, .bool q.c.d.ret, .int .i64 q.c.id, .int .i64 q.c.count], .int .i64 at_, .string s] w fun e w' => e = .returned (.bool true) ∧ Ext None_ w w' := by
  have hat := i64_of hat
  by_cases hg : (decR (bytesOf s)).2 = 0
  · cases hr : rightB q.c with
    | false => exact backFT q kq at_ hat s hs w hr hg
    | true => exact backTT q kq at_ hat s hs w hr hg
  · cases hr : rightB q.c with
    | false => exact backFF q kq at_ hat s hs w hr hg
    | true => exact backTF q kq at_ hat s hs w hr hg
end Go.Proofs.Ytmobdofkiddfhaa
