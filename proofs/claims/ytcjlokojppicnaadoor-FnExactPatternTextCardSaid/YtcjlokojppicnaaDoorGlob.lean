/- The library's variable internal/bytealg.MaxLen holds some number: at the start by the world's shape, and later as nothing old has turned. -/
import Derived.Test.YtcjlokojppicnaaDoorBase
import Derived.Shelf.Vars
namespace Go.Proofs.YtcjlokojppicnaaDoor
open Go.RowKit

def ML (w : World) : Prop := ∃ m : Int, w.cell? ⟨1, 0, none⟩ = some (.int .i64 m)

theorem ML.of_shaped {w : World} (h : w.ShapedOpen Tryd.prog) : ML w :=
  Go.Proofs.cell_of_shapedOpen_int (zero := #[.int .i64 0]) (t := 3) h (of_decide_eq_true (by kernel_rfl)) (by kernel_rfl) rfl (by kernel_rfl) (by kernel_rfl) Tryd.underlying3

theorem ML.below {w w' : World} (h : ML w) (hb : Below w.heap.size w w') : ML w' := by
  obtain ⟨m, hm⟩ := h
  exact ⟨m, (hb.cell (lt_of_cell hm)).trans hm⟩

end Go.Proofs.YtcjlokojppicnaaDoor
