/- Package meta, walked: Set whole. -/
import Derived.Test.YtakcdmmniaipeaaMeta3
set_option linter.unusedVariables false
set_option linter.unusedSimpArgs false
namespace Go.Proofs.Ytakcdmmniaipeaa
open Go.RowKit B
theorem mSet_any (w0 : World) (gm g : Nat) (D : DS) (file : Int) (r : Rec) (t v : Int) (w : World) (h : Lw w0 (GM gm) [] g D w) (hm : MetaB w gm g file r) (hgw : w0.heap.size ≤ gm) (hf : 0 ≤ file ∧ file ≤ 1) (ha : 0 ≤ r.age ∧ r.age < 1125899906842624) (ht : I64 t) (hv : I64 v) (hwl : D.wait.length ≤ 1000000) : Calls Try.prog 20 #[.pointer (some ⟨gm, 0, none⟩), .int .i64 t, .int .i64 v] w (SetP w0 gm g (setM D ⟨file, r⟩ t v)) := by
  cases may : mayB r.term r.vote t v with
  | false => exact set_may w0 gm g D file r t v w h hm hgw hf ha ht hv hwl may
  | true =>
    by_cases hs : 0 < sizeF D (1 - file)
    · obtain ⟨⟨y1, D1⟩, h1⟩ : ∃ q, q = cutD D (1 - file) 0 := ⟨_, rfl⟩
      by_cases e1 : y1 = 0
      · obtain ⟨⟨y2, D2⟩, h2⟩ : ∃ q, q = syncD D1 := ⟨_, rfl⟩
        by_cases e2 : y2 = 0
        · obtain ⟨⟨y3, D3⟩, h3⟩ : ∃ q, q = writeD D2 (1 - file) 0 (recB (r.age + 1) t v) := ⟨_, rfl⟩
          by_cases e3 : y3 = 0
          · obtain ⟨⟨y4, D4⟩, h4⟩ : ∃ q, q = syncD D3 := ⟨_, rfl⟩
            by_cases e4 : y4 = 0
            · exact set_okS w0 gm g D file r t v w h hm hgw hf ha ht hv hwl may hs y1 D1 h1.symm e1 y2 D2 h2.symm e2 y3 D3 h3.symm e3 y4 D4 h4.symm e4
            · exact set_sync2S w0 gm g D file r t v w h hm hgw hf ha ht hv hwl may hs y1 D1 h1.symm e1 y2 D2 h2.symm e2 y3 D3 h3.symm e3 y4 D4 h4.symm e4
          · exact set_writeS w0 gm g D file r t v w h hm hgw hf ha ht hv hwl may hs y1 D1 h1.symm e1 y2 D2 h2.symm e2 y3 D3 h3.symm e3
        · exact set_sync1 w0 gm g D file r t v w h hm hgw hf ha ht hv hwl may hs y1 D1 h1.symm e1 y2 D2 h2.symm e2
      · exact set_cut w0 gm g D file r t v w h hm hgw hf ha ht hv hwl may hs y1 D1 h1.symm e1
    · have hs0 : sizeF D (1 - file) = 0 := by omega
      obtain ⟨⟨y3, D3⟩, h3⟩ : ∃ q, q = writeD D (1 - file) 0 (recB (r.age + 1) t v) := ⟨_, rfl⟩
      by_cases e3 : y3 = 0
      · obtain ⟨⟨y4, D4⟩, h4⟩ : ∃ q, q = syncD D3 := ⟨_, rfl⟩
        by_cases e4 : y4 = 0
        · exact set_okZ w0 gm g D file r t v w h hm hgw hf ha ht hv hwl may hs0 y3 D3 h3.symm e3 y4 D4 h4.symm e4
        · exact set_sync2Z w0 gm g D file r t v w h hm hgw hf ha ht hv hwl may hs0 y3 D3 h3.symm e3 y4 D4 h4.symm e4
      · exact set_writeZ w0 gm g D file r t v w h hm hgw hf ha ht hv hwl may hs0 y3 D3 h3.symm e3
end Go.Proofs.Ytakcdmmniaipeaa
