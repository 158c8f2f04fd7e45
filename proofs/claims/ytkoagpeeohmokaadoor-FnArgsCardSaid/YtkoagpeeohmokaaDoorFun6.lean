/- PureFun: what spec's l10Fun gives for each name, all but TR. -/
import Derived.Test.YtkoagpeeohmokaaDoorFun4
namespace Go.Proofs.YtkoagpeeohmokaaDoor
open Go.RowKit
set_option linter.unusedVariables false

theorem argV_bd (xs : List ByteArray) (k : Nat) (d : Int) (h0 : -1000000000000 ≤ d) (h1 : d ≤ 1000000000000) : -1000000000000 ≤ argV xs k d ∧ argV xs k d ≤ 1000000000000 := by
  unfold argV
  split
  · exact wholeV_bd _
  · exact ⟨h0, h1⟩

theorem extract_none (s : ByteArray) {n : Int} (h : n < 1) : (extractOf s n n).size = 0 := by
  unfold extractOf
  rw [if_pos]
  · rfl
  · split <;> split <;> omega

theorem numeral_neg : numeralL (-1) = [45, 49] := by
  have e : (-1 : Int) * 1000000 = -1000000 := rfl
  unfold numeralL numTextB
  rw [e, isNumB_of (by omega) (by omega), if_pos rfl]
  unfold NT.numText
  rw [if_neg (by omega), if_pos (by omega), show (-1000000 : Int).natAbs = 1000000 from rfl]
  unfold NT.magT
  rw [show 1000000 / 1000000 = 1 from rfl, show 1000000 % 1000000 = 0 from rfl, if_pos rfl, NT.dd_pos (by omega), Lib.decDigits_one (by omega)]
  rfl

theorem funRes_quiet (L : List UInt8) (h : L.length ≤ 64) : (if 64 < L.length then (([] : List UInt8), (4 : Int)) else (L, 0)) = (L, 0) := if_neg (by omega)

/-- What is longer than a value may be is refused. -/
def cutRes (L : List UInt8) : List UInt8 × Int := if 64 < L.length then ([], 4) else (L, 0)

def longS (r : ByteArray) : ByteArray := if 64 < r.size then ⟨#[]⟩ else r

def longC (r : ByteArray) : Int := if 64 < r.size then 4 else 0

end Go.Proofs.YtkoagpeeohmokaaDoor
