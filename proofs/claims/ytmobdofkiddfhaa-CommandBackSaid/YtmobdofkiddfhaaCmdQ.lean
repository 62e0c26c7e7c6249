/- Package api: two requests compared. Written by gen_eq.py. -/
import Derived.Test.YtmobdofkiddfhaaCmdDa
set_option linter.unusedVariables false
set_option linter.unusedSimpArgs false
namespace Go.Proofs.Ytmobdofkiddfhaa
open Go.RowKit B
def rqEq (q r : Rq) : Bool := q.ses == r.ses && (q.seq == r.seq && (q.c.kind == r.c.kind && (q.c.o.id == r.c.o.id && (q.c.o.size == r.c.o.size && (q.c.o.pick.p == r.c.o.pick.p && (q.c.o.pick.f == r.c.o.pick.f && (q.c.o.pick.t == r.c.o.pick.t && (q.c.o.pick.s == r.c.o.pick.s && (q.c.o.drop.p == r.c.o.drop.p && (q.c.o.drop.f == r.c.o.drop.f && (q.c.o.drop.t == r.c.o.drop.t && (q.c.o.drop.s == r.c.o.drop.s && (q.c.d.id == r.c.d.id && (q.c.d.room == r.c.d.room && (q.c.d.home == r.c.d.home && (q.c.d.f == r.c.d.f && (q.c.d.t == r.c.d.t && (q.c.d.ret == r.c.d.ret && (q.c.id == r.c.id && (q.c.count == r.c.count))))))))))))))))))))
set_option maxRecDepth 100000 in
set_option maxHeartbeats 4000000 in
theorem eqRq (q r : Rq) (w : World) : (Op.equalIn 10000 70 (.agg #[.int .i64 q.ses, .int .i64 q.seq, .int .i64 q.c.kind, .int .i64 q.c.o.id, .int .i64 q.c.o.size, .int .i64 q.c.o.pick.p, .int .i64 q.c.o.pick.f, .int .i64 q.c.o.pick.t, .int .i64 q.c.o.pick.s, .int .i64 q.c.o.drop.p, .int .i64 q.c.o.drop.f, .int .i64 q.c.o.drop.t, .int .i64 q.c.o.drop.s, .int .i64 q.c.d.id, .int .i64 q.c.d.room, .int .i64 q.c.d.home, .int .i64 q.c.d.f, .int .i64 q.c.d.t, .bool q.c.d.ret, .int .i64 q.c.id, .int .i64 q.c.count]) (.agg #[.int .i64 r.ses, .int .i64 r.seq, .int .i64 r.c.kind, .int .i64 r.c.o.id, .int .i64 r.c.o.size, .int .i64 r.c.o.pick.p, .int .i64 r.c.o.pick.f, .int .i64 r.c.o.pick.t, .int .i64 r.c.o.pick.s, .int .i64 r.c.o.drop.p, .int .i64 r.c.o.drop.f, .int .i64 r.c.o.drop.t, .int .i64 r.c.o.drop.s, .int .i64 r.c.d.id, .int .i64 r.c.d.room, .int .i64 r.c.d.home, .int .i64 r.c.d.f, .int .i64 r.c.d.t, .bool r.c.d.ret, .int .i64 r.c.id, .int .i64 r.c.count])).run Try.prog w = .ok (rqEq q r) w := by
  have hS : Try.prog.underlying 70 = some (.struct (Try.prog.fieldsOf 70)) := by kernel_rfl
  rw [show (10000 : Nat) = 9999 + 1 from rfl, run_equalIn_agg w 9999 70 _ _ hS (by kernel_rfl)]
  simp only [Program.fieldsOf, Try.underlying70]
  go_simp
  refine (ifok (ifok (ifok (ifok (ifok (ifok (ifok (ifok (ifok (ifok (ifok (ifok (ifok (ifok (ifok (ifok (ifok (ifok (ifok (ifok (ifok (rfl)))))))))))))))))))))).trans ?_
  have e : ∀ a b : Bool, a = b → (Result.ok a w : Result Bool) = .ok b w := fun a b h => by rw [h]
  refine e _ _ ?_
  simp only [rqEq, Bool.and_true]
  rfl
theorem Site.ext_ {a b : Site} (h1 : a.p = b.p) (h2 : a.f = b.f) (h3 : a.t = b.t) (h4 : a.s = b.s) : a = b := by cases a; cases b; simp_all
theorem Ord.ext_ {a b : Ord} (h1 : a.id = b.id) (h2 : a.size = b.size) (h3 : a.pick = b.pick) (h4 : a.drop = b.drop) : a = b := by cases a; cases b; simp_all
theorem Drv.ext_ {a b : Drv} (h1 : a.id = b.id) (h2 : a.room = b.room) (h3 : a.home = b.home) (h4 : a.f = b.f) (h5 : a.t = b.t) (h6 : a.ret = b.ret) : a = b := by cases a; cases b; simp_all
theorem Cmd.ext_ {a b : Cmd} (h1 : a.kind = b.kind) (h2 : a.o = b.o) (h3 : a.d = b.d) (h4 : a.id = b.id) (h5 : a.count = b.count) : a = b := by cases a; cases b; simp_all
theorem Rq.ext_ {a b : Rq} (h1 : a.ses = b.ses) (h2 : a.seq = b.seq) (h3 : a.c = b.c) : a = b := by cases a; cases b; simp_all
theorem rqEq_iff (q r : Rq) : rqEq q r = true ↔ q = r := by
  constructor
  · intro h
    simp only [rqEq, Bool.and_eq_true, beq_iff_eq] at h
    obtain ⟨h0, h1, h2, h3, h4, h5, h6, h7, h8, h9, h10, h11, h12, h13, h14, h15, h16, h17, h18, h19, h20⟩ := h
    exact Rq.ext_ h0 h1 (Cmd.ext_ h2 (Ord.ext_ h3 h4 (Site.ext_ h5 h6 h7 h8) (Site.ext_ h9 h10 h11 h12)) (Drv.ext_ h13 h14 h15 h16 h17 h18) h19 h20)
  · rintro rfl
    simp [rqEq]
end Go.Proofs.Ytmobdofkiddfhaa
