/- Small facts for structs in memory. -/
import Derived.Test.YtllamjgloilioaaStructArgs
namespace Go.Proofs.Ytllamjgloilioaa
open Go.RowKit
set_option linter.unusedVariables false

theorem own_on {w w' : World} {base : Nat} {e : TypeId} {size : Nat} {v : Value} {n : Nat} {cells : List Value} (h : w.ownsRow base e size v n cells) (hb : Below w.heap.size w w') : w'.ownsRow base e size v n cells := by
  rcases h with ⟨h1, h2 | ⟨g, cap, cur, hv, hg, hh, hr⟩⟩
  · exact ⟨h1, .inl h2⟩
  · refine ⟨h1, .inr ⟨g, cap, cur, hv, hg, ?_, hr⟩⟩
    have hlt : g < w.heap.size := by
      rcases Nat.lt_or_ge g w.heap.size with h | h
      · exact h
      · rw [Array.getElem?_eq_none h] at hh; cases hh
    rw [hb.block g hlt]; exact hh

theorem cell_setCell_blk (w : World) (a p : Addr) (u : Value) (h : p.block ≠ a.block) : (w.setCell a u).cell? p = w.cell? p :=
  World.cell?_of_block (w := w) (Below.heap_setCell w a u p.block h)

end Go.Proofs.Ytllamjgloilioaa
