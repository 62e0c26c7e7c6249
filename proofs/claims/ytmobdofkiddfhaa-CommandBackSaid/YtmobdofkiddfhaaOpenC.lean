/- What an argument of package api's types reads as. Written by gen_open15.py. -/
import Derived.Test.YtmobdofkiddfhaaCmdE
import Derived.Test.YtmobdofkiddfhaaOpen
import Derived.Deep.Slices
set_option linter.unusedVariables false
set_option linter.unusedSimpArgs false
namespace Go.Proofs.Ytmobdofkiddfhaa
open Go Go.RowKit Go.ChangeShapes Go.WideShapes B
def structOf' (P : Program) (t : TypeId) : Option (List (Nat × TypeId)) := match P.underlying t with | some (.struct fs) => some (fs.toList.map fun f => (f.offset, f.type)) | _ => none
section
variable {H : Type} {enc : TypeId × Value → H} {P : Program} {W : World} {t : TypeId} {cs : List Value} {d : DataW H} {ps : List MemPlace} {fuel : Nat}
theorem tr_struct' {l : List (Nat × TypeId)} (hs : structOf' P t = some l) (h : Tr enc P W fuel t cs d ps) :
    ∃ (xs : List (DataW H × List MemPlace)) (n : Nat), fuel = n + 1 ∧ d = .agg (xs.map (·.1)) ∧ cs.length = P.cellsOf t ∧ xs.length = l.length ∧ ∀ (i o : Nat) (ty : TypeId), l[i]? = some (o, ty) → DataW.trod enc P W 0 (fun _ => true) true n ty ((cs.drop o).take (P.cellsOf ty)) = xs[i]? := by
  unfold structOf' at hs
  split at hs
  · next fs hu =>
    injection hs with hs
    subst hs
    obtain ⟨xs, n, hf, hx, hl, hn, hget⟩ := DataW.trod_struct hu h
    refine ⟨xs, n, hf, (Prod.mk.inj hx).1, hl, by simpa using hn, fun i o ty hi => ?_⟩
    rw [List.getElem?_map] at hi
    cases hg : fs.toList[i]? with
    | none => rw [hg] at hi; cases hi
    | some f =>
      rw [hg] at hi
      simp only [Option.map_some, Option.some.injEq, Prod.mk.injEq] at hi
      obtain ⟨rfl, rfl⟩ := hi
      exact hget i f (by rw [← Array.getElem?_toList]; exact hg)
  · cases hs
end
theorem part_app (cs : List Value) (n m k : Nat) (h : n + m = k) : cs.drop n = (cs.drop n).take m ++ cs.drop k := by
  subst h
  rw [← List.drop_drop, List.take_append_drop]
theorem some_of {α : Type} {xs : List α} {i n : Nat} (h : xs.length = n) (hi : i < n) : ∃ x, xs[i]? = some x := ⟨xs[i], List.getElem?_eq_getElem (by omega)⟩

set_option maxRecDepth 100000 in
theorem open_Window {H : Type} {enc : TypeId × Value → H} {W : World} {cs : List Value} {d : DataW H} {ps : List MemPlace} {fuel : Nat} (h : Tr enc Try.prog W fuel 60 cs d ps) :
    ∃ x : Int × Int, cs = [.int .i64 x.1, .int .i64 x.2] ∧ I64 x.1 ∧ I64 x.2 := by
  obtain ⟨xs, n, rfl, rfl, hl, hn, hget⟩ := tr_struct' (l := [(0, 3), (1, 3)]) (by kernel_rfl) h
  replace hl := hl.trans (show Try.prog.cellsOf 60 = 2 from by kernel_rfl)
  obtain ⟨x0, e0⟩ := some_of hn (show 0 < _ from by decide)
  have g0 := hget 0 0 3 rfl
  rw [e0, show Try.prog.cellsOf 3 = 1 from by kernel_rfl] at g0
  obtain ⟨n0, c0, w0, _⟩ := tr_int (k := .i64) (d := x0.1) (ps := x0.2) (by kernel_rfl) g0
  obtain ⟨x1, e1⟩ := some_of hn (show 1 < _ from by decide)
  have g1 := hget 1 1 3 rfl
  rw [e1, show Try.prog.cellsOf 3 = 1 from by kernel_rfl] at g1
  obtain ⟨n1, c1, w1, _⟩ := tr_int (k := .i64) (d := x1.1) (ps := x1.2) (by kernel_rfl) g1
  refine ⟨(n0, n1), ?_, ?_⟩
  · have hc : cs = cs.drop 0 := rfl
    rw [hc, part_app cs 0 1 1 rfl, c0, part_app cs 1 1 2 rfl, c1, List.drop_eq_nil_of_le (by omega)]
    rfl
  · exact ⟨i64_of w0, i64_of w1⟩

set_option maxRecDepth 100000 in
theorem open_Site {H : Type} {enc : TypeId × Value → H} {W : World} {cs : List Value} {d : DataW H} {ps : List MemPlace} {fuel : Nat} (h : Tr enc Try.prog W fuel 62 cs d ps) :
    ∃ x : Site, cs = [.int .i64 x.p, .int .i64 x.f, .int .i64 x.t, .int .i64 x.s] ∧ x.ok := by
  obtain ⟨xs, n, rfl, rfl, hl, hn, hget⟩ := tr_struct' (l := [(0, 3), (1, 60), (3, 3)]) (by kernel_rfl) h
  replace hl := hl.trans (show Try.prog.cellsOf 62 = 4 from by kernel_rfl)
  obtain ⟨x0, e0⟩ := some_of hn (show 0 < _ from by decide)
  have g0 := hget 0 0 3 rfl
  rw [e0, show Try.prog.cellsOf 3 = 1 from by kernel_rfl] at g0
  obtain ⟨n0, c0, w0, _⟩ := tr_int (k := .i64) (d := x0.1) (ps := x0.2) (by kernel_rfl) g0
  obtain ⟨x1, e1⟩ := some_of hn (show 1 < _ from by decide)
  have g1 := hget 1 1 60 rfl
  rw [e1, show Try.prog.cellsOf 60 = 2 from by kernel_rfl] at g1
  obtain ⟨n1, c1, w1⟩ := open_Window (d := x1.1) (ps := x1.2) g1
  obtain ⟨x2, e2⟩ := some_of hn (show 2 < _ from by decide)
  have g2 := hget 2 3 3 rfl
  rw [e2, show Try.prog.cellsOf 3 = 1 from by kernel_rfl] at g2
  obtain ⟨n2, c2, w2, _⟩ := tr_int (k := .i64) (d := x2.1) (ps := x2.2) (by kernel_rfl) g2
  refine ⟨⟨n0, n1.1, n1.2, n2⟩, ?_, ?_⟩
  · have hc : cs = cs.drop 0 := rfl
    rw [hc, part_app cs 0 1 1 rfl, c0, part_app cs 1 2 3 rfl, c1, part_app cs 3 1 4 rfl, c2, List.drop_eq_nil_of_le (by omega)]
    rfl
  · exact ⟨i64_of w0, w1.1, w1.2, i64_of w2⟩

set_option maxRecDepth 100000 in
theorem open_Ord {H : Type} {enc : TypeId × Value → H} {W : World} {cs : List Value} {d : DataW H} {ps : List MemPlace} {fuel : Nat} (h : Tr enc Try.prog W fuel 64 cs d ps) :
    ∃ x : Ord, cs = [.int .i64 x.id, .int .i64 x.size, .int .i64 x.pick.p, .int .i64 x.pick.f, .int .i64 x.pick.t, .int .i64 x.pick.s, .int .i64 x.drop.p, .int .i64 x.drop.f, .int .i64 x.drop.t, .int .i64 x.drop.s] ∧ x.ok := by
  obtain ⟨xs, n, rfl, rfl, hl, hn, hget⟩ := tr_struct' (l := [(0, 3), (1, 3), (2, 62), (6, 62)]) (by kernel_rfl) h
  replace hl := hl.trans (show Try.prog.cellsOf 64 = 10 from by kernel_rfl)
  obtain ⟨x0, e0⟩ := some_of hn (show 0 < _ from by decide)
  have g0 := hget 0 0 3 rfl
  rw [e0, show Try.prog.cellsOf 3 = 1 from by kernel_rfl] at g0
  obtain ⟨n0, c0, w0, _⟩ := tr_int (k := .i64) (d := x0.1) (ps := x0.2) (by kernel_rfl) g0
  obtain ⟨x1, e1⟩ := some_of hn (show 1 < _ from by decide)
  have g1 := hget 1 1 3 rfl
  rw [e1, show Try.prog.cellsOf 3 = 1 from by kernel_rfl] at g1
  obtain ⟨n1, c1, w1, _⟩ := tr_int (k := .i64) (d := x1.1) (ps := x1.2) (by kernel_rfl) g1
  obtain ⟨x2, e2⟩ := some_of hn (show 2 < _ from by decide)
  have g2 := hget 2 2 62 rfl
  rw [e2, show Try.prog.cellsOf 62 = 4 from by kernel_rfl] at g2
  obtain ⟨n2, c2, w2⟩ := open_Site (d := x2.1) (ps := x2.2) g2
  obtain ⟨x3, e3⟩ := some_of hn (show 3 < _ from by decide)
  have g3 := hget 3 6 62 rfl
  rw [e3, show Try.prog.cellsOf 62 = 4 from by kernel_rfl] at g3
  obtain ⟨n3, c3, w3⟩ := open_Site (d := x3.1) (ps := x3.2) g3
  refine ⟨⟨n0, n1, n2, n3⟩, ?_, ?_⟩
  · have hc : cs = cs.drop 0 := rfl
    rw [hc, part_app cs 0 1 1 rfl, c0, part_app cs 1 1 2 rfl, c1, part_app cs 2 4 6 rfl, c2, part_app cs 6 4 10 rfl, c3, List.drop_eq_nil_of_le (by omega)]
    rfl
  · exact ⟨i64_of w0, i64_of w1, w2, w3⟩

set_option maxRecDepth 100000 in
theorem open_Drv {H : Type} {enc : TypeId × Value → H} {W : World} {cs : List Value} {d : DataW H} {ps : List MemPlace} {fuel : Nat} (h : Tr enc Try.prog W fuel 66 cs d ps) :
    ∃ x : Drv, cs = [.int .i64 x.id, .int .i64 x.room, .int .i64 x.home, .int .i64 x.f, .int .i64 x.t, .bool x.ret] ∧ x.ok := by
  obtain ⟨xs, n, rfl, rfl, hl, hn, hget⟩ := tr_struct' (l := [(0, 3), (1, 3), (2, 3), (3, 60), (5, 4)]) (by kernel_rfl) h
  replace hl := hl.trans (show Try.prog.cellsOf 66 = 6 from by kernel_rfl)
  obtain ⟨x0, e0⟩ := some_of hn (show 0 < _ from by decide)
  have g0 := hget 0 0 3 rfl
  rw [e0, show Try.prog.cellsOf 3 = 1 from by kernel_rfl] at g0
  obtain ⟨n0, c0, w0, _⟩ := tr_int (k := .i64) (d := x0.1) (ps := x0.2) (by kernel_rfl) g0
  obtain ⟨x1, e1⟩ := some_of hn (show 1 < _ from by decide)
  have g1 := hget 1 1 3 rfl
  rw [e1, show Try.prog.cellsOf 3 = 1 from by kernel_rfl] at g1
  obtain ⟨n1, c1, w1, _⟩ := tr_int (k := .i64) (d := x1.1) (ps := x1.2) (by kernel_rfl) g1
  obtain ⟨x2, e2⟩ := some_of hn (show 2 < _ from by decide)
  have g2 := hget 2 2 3 rfl
  rw [e2, show Try.prog.cellsOf 3 = 1 from by kernel_rfl] at g2
  obtain ⟨n2, c2, w2, _⟩ := tr_int (k := .i64) (d := x2.1) (ps := x2.2) (by kernel_rfl) g2
  obtain ⟨x3, e3⟩ := some_of hn (show 3 < _ from by decide)
  have g3 := hget 3 3 60 rfl
  rw [e3, show Try.prog.cellsOf 60 = 2 from by kernel_rfl] at g3
  obtain ⟨n3, c3, w3⟩ := open_Window (d := x3.1) (ps := x3.2) g3
  obtain ⟨x4, e4⟩ := some_of hn (show 4 < _ from by decide)
  have g4 := hget 4 5 4 rfl
  rw [e4, show Try.prog.cellsOf 4 = 1 from by kernel_rfl] at g4
  obtain ⟨n4, c4, _⟩ := tr_bool (d := x4.1) (ps := x4.2) (by kernel_rfl) g4
  refine ⟨⟨n0, n1, n2, n3.1, n3.2, n4⟩, ?_, ?_⟩
  · have hc : cs = cs.drop 0 := rfl
    rw [hc, part_app cs 0 1 1 rfl, c0, part_app cs 1 1 2 rfl, c1, part_app cs 2 1 3 rfl, c2, part_app cs 3 2 5 rfl, c3, part_app cs 5 1 6 rfl, c4, List.drop_eq_nil_of_le (by omega)]
    rfl
  · exact ⟨i64_of w0, i64_of w1, i64_of w2, w3.1, w3.2⟩

set_option maxRecDepth 100000 in
theorem open_Cmd {H : Type} {enc : TypeId × Value → H} {W : World} {cs : List Value} {d : DataW H} {ps : List MemPlace} {fuel : Nat} (h : Tr enc Try.prog W fuel 68 cs d ps) :
    ∃ x : Cmd, cs = [.int .i64 x.kind, .int .i64 x.o.id, .int .i64 x.o.size, .int .i64 x.o.pick.p, .int .i64 x.o.pick.f, .int .i64 x.o.pick.t, .int .i64 x.o.pick.s, .int .i64 x.o.drop.p, .int .i64 x.o.drop.f, .int .i64 x.o.drop.t, .int .i64 x.o.drop.s, .int .i64 x.d.id, .int .i64 x.d.room, .int .i64 x.d.home, .int .i64 x.d.f, .int .i64 x.d.t, .bool x.d.ret, .int .i64 x.id, .int .i64 x.count] ∧ x.ok := by
  obtain ⟨xs, n, rfl, rfl, hl, hn, hget⟩ := tr_struct' (l := [(0, 3), (1, 64), (11, 66), (17, 3), (18, 3)]) (by kernel_rfl) h
  replace hl := hl.trans (show Try.prog.cellsOf 68 = 19 from by kernel_rfl)
  obtain ⟨x0, e0⟩ := some_of hn (show 0 < _ from by decide)
  have g0 := hget 0 0 3 rfl
  rw [e0, show Try.prog.cellsOf 3 = 1 from by kernel_rfl] at g0
  obtain ⟨n0, c0, w0, _⟩ := tr_int (k := .i64) (d := x0.1) (ps := x0.2) (by kernel_rfl) g0
  obtain ⟨x1, e1⟩ := some_of hn (show 1 < _ from by decide)
  have g1 := hget 1 1 64 rfl
  rw [e1, show Try.prog.cellsOf 64 = 10 from by kernel_rfl] at g1
  obtain ⟨n1, c1, w1⟩ := open_Ord (d := x1.1) (ps := x1.2) g1
  obtain ⟨x2, e2⟩ := some_of hn (show 2 < _ from by decide)
  have g2 := hget 2 11 66 rfl
  rw [e2, show Try.prog.cellsOf 66 = 6 from by kernel_rfl] at g2
  obtain ⟨n2, c2, w2⟩ := open_Drv (d := x2.1) (ps := x2.2) g2
  obtain ⟨x3, e3⟩ := some_of hn (show 3 < _ from by decide)
  have g3 := hget 3 17 3 rfl
  rw [e3, show Try.prog.cellsOf 3 = 1 from by kernel_rfl] at g3
  obtain ⟨n3, c3, w3, _⟩ := tr_int (k := .i64) (d := x3.1) (ps := x3.2) (by kernel_rfl) g3
  obtain ⟨x4, e4⟩ := some_of hn (show 4 < _ from by decide)
  have g4 := hget 4 18 3 rfl
  rw [e4, show Try.prog.cellsOf 3 = 1 from by kernel_rfl] at g4
  obtain ⟨n4, c4, w4, _⟩ := tr_int (k := .i64) (d := x4.1) (ps := x4.2) (by kernel_rfl) g4
  refine ⟨⟨n0, n1, n2, n3, n4⟩, ?_, ?_⟩
  · have hc : cs = cs.drop 0 := rfl
    rw [hc, part_app cs 0 1 1 rfl, c0, part_app cs 1 10 11 rfl, c1, part_app cs 11 6 17 rfl, c2, part_app cs 17 1 18 rfl, c3, part_app cs 18 1 19 rfl, c4, List.drop_eq_nil_of_le (by omega)]
    rfl
  · exact ⟨i64_of w0, w1, w2, i64_of w3, i64_of w4⟩

set_option maxRecDepth 100000 in
theorem open_Rq {H : Type} {enc : TypeId × Value → H} {W : World} {cs : List Value} {d : DataW H} {ps : List MemPlace} {fuel : Nat} (h : Tr enc Try.prog W fuel 70 cs d ps) :
    ∃ x : Rq, cs = [.int .i64 x.ses, .int .i64 x.seq, .int .i64 x.c.kind, .int .i64 x.c.o.id, .int .i64 x.c.o.size, .int .i64 x.c.o.pick.p, .int .i64 x.c.o.pick.f, .int .i64 x.c.o.pick.t, .int .i64 x.c.o.pick.s, .int .i64 x.c.o.drop.p, .int .i64 x.c.o.drop.f, .int .i64 x.c.o.drop.t, .int .i64 x.c.o.drop.s, .int .i64 x.c.d.id, .int .i64 x.c.d.room, .int .i64 x.c.d.home, .int .i64 x.c.d.f, .int .i64 x.c.d.t, .bool x.c.d.ret, .int .i64 x.c.id, .int .i64 x.c.count] ∧ x.ok := by
  obtain ⟨xs, n, rfl, rfl, hl, hn, hget⟩ := tr_struct' (l := [(0, 3), (1, 3), (2, 68)]) (by kernel_rfl) h
  replace hl := hl.trans (show Try.prog.cellsOf 70 = 21 from by kernel_rfl)
  obtain ⟨x0, e0⟩ := some_of hn (show 0 < _ from by decide)
  have g0 := hget 0 0 3 rfl
  rw [e0, show Try.prog.cellsOf 3 = 1 from by kernel_rfl] at g0
  obtain ⟨n0, c0, w0, _⟩ := tr_int (k := .i64) (d := x0.1) (ps := x0.2) (by kernel_rfl) g0
  obtain ⟨x1, e1⟩ := some_of hn (show 1 < _ from by decide)
  have g1 := hget 1 1 3 rfl
  rw [e1, show Try.prog.cellsOf 3 = 1 from by kernel_rfl] at g1
  obtain ⟨n1, c1, w1, _⟩ := tr_int (k := .i64) (d := x1.1) (ps := x1.2) (by kernel_rfl) g1
  obtain ⟨x2, e2⟩ := some_of hn (show 2 < _ from by decide)
  have g2 := hget 2 2 68 rfl
  rw [e2, show Try.prog.cellsOf 68 = 19 from by kernel_rfl] at g2
  obtain ⟨n2, c2, w2⟩ := open_Cmd (d := x2.1) (ps := x2.2) g2
  refine ⟨⟨n0, n1, n2⟩, ?_, ?_⟩
  · have hc : cs = cs.drop 0 := rfl
    rw [hc, part_app cs 0 1 1 rfl, c0, part_app cs 1 1 2 rfl, c1, part_app cs 2 19 21 rfl, c2, List.drop_eq_nil_of_le (by omega)]
    rfl
  · exact ⟨i64_of w0, i64_of w1, w2⟩

set_option maxRecDepth 100000 in
theorem open_Rep {H : Type} {enc : TypeId × Value → H} {W : World} {cs : List Value} {d : DataW H} {ps : List MemPlace} {fuel : Nat} (h : Tr enc Try.prog W fuel 77 cs d ps) :
    ∃ x : Rep, cs = [.int .i64 x.why, .int .i64 x.state, .int .i64 x.drv, .int .i64 x.time] ∧ x.ok := by
  obtain ⟨xs, n, rfl, rfl, hl, hn, hget⟩ := tr_struct' (l := [(0, 29), (1, 3), (2, 3), (3, 3)]) (by kernel_rfl) h
  replace hl := hl.trans (show Try.prog.cellsOf 77 = 4 from by kernel_rfl)
  obtain ⟨x0, e0⟩ := some_of hn (show 0 < _ from by decide)
  have g0 := hget 0 0 29 rfl
  rw [e0, show Try.prog.cellsOf 29 = 1 from by kernel_rfl] at g0
  obtain ⟨n0, c0, w0, _⟩ := tr_int (k := .i64) (d := x0.1) (ps := x0.2) (by kernel_rfl) g0
  obtain ⟨x1, e1⟩ := some_of hn (show 1 < _ from by decide)
  have g1 := hget 1 1 3 rfl
  rw [e1, show Try.prog.cellsOf 3 = 1 from by kernel_rfl] at g1
  obtain ⟨n1, c1, w1, _⟩ := tr_int (k := .i64) (d := x1.1) (ps := x1.2) (by kernel_rfl) g1
  obtain ⟨x2, e2⟩ := some_of hn (show 2 < _ from by decide)
  have g2 := hget 2 2 3 rfl
  rw [e2, show Try.prog.cellsOf 3 = 1 from by kernel_rfl] at g2
  obtain ⟨n2, c2, w2, _⟩ := tr_int (k := .i64) (d := x2.1) (ps := x2.2) (by kernel_rfl) g2
  obtain ⟨x3, e3⟩ := some_of hn (show 3 < _ from by decide)
  have g3 := hget 3 3 3 rfl
  rw [e3, show Try.prog.cellsOf 3 = 1 from by kernel_rfl] at g3
  obtain ⟨n3, c3, w3, _⟩ := tr_int (k := .i64) (d := x3.1) (ps := x3.2) (by kernel_rfl) g3
  refine ⟨⟨n0, n1, n2, n3⟩, ?_, ?_⟩
  · have hc : cs = cs.drop 0 := rfl
    rw [hc, part_app cs 0 1 1 rfl, c0, part_app cs 1 1 2 rfl, c1, part_app cs 2 1 3 rfl, c2, part_app cs 3 1 4 rfl, c3, List.drop_eq_nil_of_le (by omega)]
    rfl
  · exact ⟨i64_of w0, i64_of w1, i64_of w2, i64_of w3⟩

set_option maxRecDepth 100000 in
theorem open_OrdA {H : Type} {enc : TypeId × Value → H} {W : World} {base : Nat} {v : Value} {d : DataW H} {ps : List MemPlace} (hv : Value.okWide Try.prog W .any base 64 v) (h : DataW.Trod enc Try.prog W 0 (fun _ => true) true 64 v d ps) :
    ∃ x : Ord, v = .agg #[.int .i64 x.id, .int .i64 x.size, .int .i64 x.pick.p, .int .i64 x.pick.f, .int .i64 x.pick.t, .int .i64 x.pick.s, .int .i64 x.drop.p, .int .i64 x.drop.f, .int .i64 x.drop.t, .int .i64 x.drop.s] ∧ x.ok := by
  obtain ⟨cs, rfl, _⟩ := okWide_struct Try.underlying64 hv
  obtain ⟨fuel, hf⟩ := h
  obtain ⟨x, e, hk⟩ := open_Ord hf
  exact ⟨x, congrArg Value.agg (Array.ext' e), hk⟩

set_option maxRecDepth 100000 in
theorem open_CmdA {H : Type} {enc : TypeId × Value → H} {W : World} {base : Nat} {v : Value} {d : DataW H} {ps : List MemPlace} (hv : Value.okWide Try.prog W .any base 68 v) (h : DataW.Trod enc Try.prog W 0 (fun _ => true) true 68 v d ps) :
    ∃ x : Cmd, v = .agg #[.int .i64 x.kind, .int .i64 x.o.id, .int .i64 x.o.size, .int .i64 x.o.pick.p, .int .i64 x.o.pick.f, .int .i64 x.o.pick.t, .int .i64 x.o.pick.s, .int .i64 x.o.drop.p, .int .i64 x.o.drop.f, .int .i64 x.o.drop.t, .int .i64 x.o.drop.s, .int .i64 x.d.id, .int .i64 x.d.room, .int .i64 x.d.home, .int .i64 x.d.f, .int .i64 x.d.t, .bool x.d.ret, .int .i64 x.id, .int .i64 x.count] ∧ x.ok := by
  obtain ⟨cs, rfl, _⟩ := okWide_struct Try.underlying68 hv
  obtain ⟨fuel, hf⟩ := h
  obtain ⟨x, e, hk⟩ := open_Cmd hf
  exact ⟨x, congrArg Value.agg (Array.ext' e), hk⟩

set_option maxRecDepth 100000 in
theorem open_RqA {H : Type} {enc : TypeId × Value → H} {W : World} {base : Nat} {v : Value} {d : DataW H} {ps : List MemPlace} (hv : Value.okWide Try.prog W .any base 70 v) (h : DataW.Trod enc Try.prog W 0 (fun _ => true) true 70 v d ps) :
    ∃ x : Rq, v = .agg #[.int .i64 x.ses, .int .i64 x.seq, .int .i64 x.c.kind, .int .i64 x.c.o.id, .int .i64 x.c.o.size, .int .i64 x.c.o.pick.p, .int .i64 x.c.o.pick.f, .int .i64 x.c.o.pick.t, .int .i64 x.c.o.pick.s, .int .i64 x.c.o.drop.p, .int .i64 x.c.o.drop.f, .int .i64 x.c.o.drop.t, .int .i64 x.c.o.drop.s, .int .i64 x.c.d.id, .int .i64 x.c.d.room, .int .i64 x.c.d.home, .int .i64 x.c.d.f, .int .i64 x.c.d.t, .bool x.c.d.ret, .int .i64 x.c.id, .int .i64 x.c.count] ∧ x.ok := by
  obtain ⟨cs, rfl, _⟩ := okWide_struct Try.underlying70 hv
  obtain ⟨fuel, hf⟩ := h
  obtain ⟨x, e, hk⟩ := open_Rq hf
  exact ⟨x, congrArg Value.agg (Array.ext' e), hk⟩

set_option maxRecDepth 100000 in
theorem open_RepA {H : Type} {enc : TypeId × Value → H} {W : World} {base : Nat} {v : Value} {d : DataW H} {ps : List MemPlace} (hv : Value.okWide Try.prog W .any base 77 v) (h : DataW.Trod enc Try.prog W 0 (fun _ => true) true 77 v d ps) :
    ∃ x : Rep, v = .agg #[.int .i64 x.why, .int .i64 x.state, .int .i64 x.drv, .int .i64 x.time] ∧ x.ok := by
  obtain ⟨cs, rfl, _⟩ := okWide_struct Try.underlying77 hv
  obtain ⟨fuel, hf⟩ := h
  obtain ⟨x, e, hk⟩ := open_Rep hf
  exact ⟨x, congrArg Value.agg (Array.ext' e), hk⟩

end Go.Proofs.Ytmobdofkiddfhaa
