/- impl.reverse and spec.l10Reverse: the bytes of a string from its end. (Reverse_any began as lines of the kit's contract of slices.Reverse at another element type.) -/
import Derived.Test.YtkoagpeeohmokaaDoorFun2
import Derived.Shelf.RegionOpenPlain
import Derived.Deep.LoopGhost
import Derived.Lib.Walk
import Derived.Sort.WalkB12
import Derived.Lib.SlicesMore
namespace Go.Proofs.YtkoagpeeohmokaaDoor
open Go.RowKit Go.Lib Go.Sort
set_option linter.unusedVariables false

theorem addr_at (g k : Nat) : (⟨g, 0, none⟩ : Addr).add k = ⟨g, k, none⟩ := by
  unfold Addr.add
  split
  · rename_i h0; rw [h0]
  · simp

def encB (c : UInt8) : Value := .int .u8 (c.toNat : Int)

set_option maxHeartbeats 1600000 in
set_option maxRecDepth 100000 in
theorem Reverse_any (blk off cap : Nat) (d : Array UInt8) (w : World) (hH : Holds encB w blk off d) (hsz : d.size ≤ 9223372036854775807) :
    Calls Tryd.prog 98 #[.slice (some ⟨blk, off, none⟩) d.size cap] w fun e w' => e = .returned (.tuple #[]) ∧ ∃ n, w' = putRow encB (Sort.ahead w n) blk off d.reverse := by
  have mixed : Tryd.prog.follows Departure.mixedOrders = true := by kernel_rfl
  go_enter Tryd.func98, Tryd.ntmps98
  go_wp2
  go_loopg [2, 3] d.size (fun k s2 s3 wr => ∃ (i jn : Nat) (jz : Int) (dk : Array UInt8) (n : Nat), s2 = .int .i64 i ∧ s3 = .int .i64 jz ∧ ((i : Int) < jz → jz = jn ∧ jn < d.size) ∧ (¬ (i : Int) < jz → ¬ i < jn) ∧ jn - i ≤ k ∧
    dk.size = d.size ∧ wr = putRow encB (Sort.ahead w n) blk off dk ∧ reverseLoop i jn dk = reverseLoop 0 (d.size - 1) d)
  case atStart => exact ⟨0, d.size - 1, (d.size : Int) - 1, d, 0, rfl, rfl, fun h => ⟨by omega, by omega⟩, fun h => by omega, by omega, rfl, (putRow_self encB w blk off d hH).symm, rfl⟩
  case round =>
    obtain ⟨i, jn, jz, dk, n, rfl, rfl, h1, h2, hk, hds, hwr, heq⟩ := hrel
    by_cases hlt : (i : Int) < jz
    · obtain ⟨rfl, hjn⟩ := h1 hlt
      have hij : i < jn := by omega
      have hid : i < d.size := by omega
      have hHk : Holds encB wr blk off dk := by rw [hwr]; exact holds_putRow encB _ blk off d dk (holds_ahead encB w n blk off d hH) hds
      obtain ⟨ci, fi⟩ := hHk i (by omega)
      obtain ⟨cj, fj⟩ := hHk jn (by omega)
      unfold encB at ci cj
      have A : Aside (wr = putRow encB (Sort.ahead w n) blk off dk) := hwr
      clear hwr hHk hH h1 h2
      go_wp2_with fail
      go_region_o
      go_wp2
      go_roundg (jn - 1 - (i + 1))
      case measure => omega
      case rel =>
        rw [reverseLoop, if_pos hij] at heq
        exact ⟨i + 1, jn - 1, (jn : Int) - 1, swp dk i jn, n + 1, by simp, rfl, fun h => ⟨by omega, by omega⟩, fun h => by omega, Nat.le_refl _, by rw [size_swp]; exact hds,
          swap_world encB (by omega) (by omega) A.out (by first | rfl | simp [encB, getElem!_pos, show jn < dk.size by omega]) (by first | rfl | simp [encB, getElem!_pos, show i < dk.size by omega]), heq⟩
    · have hnot := h2 hlt
      go_wp2
      go_end0
      refine ⟨rfl, n, ?_⟩
      rw [reverseLoop, if_neg hnot] at heq
      rw [← Lib.reverseLoop_reverse, ← heq]

theorem below_putRow {B : Nat} {a w : World} (h : Below B a w) (n blk off : Nat) (d : Array UInt8) (hb : B ≤ blk) : Below B a (putRow encB (Sort.ahead w n) blk off d) :=
  ⟨h.os, h.tape, h.output, by simpa [Sort.ahead] using h.size, fun i hi => by
    rw [← h.block i hi]
    simp only [putRow, mapBlock, Array.getElem?_modify, Sort.ahead]
    rw [if_neg (by omega)]⟩

theorem holds_laid {w : World} {g : Nat} {s : ByteArray} (h : Laid w g s) : Holds encB w g 0 s.data := by
  intro j hj
  have hc := h.cell (show j < s.size from hj)
  obtain ⟨cap, hh⟩ := h
  refine ⟨?_, ?_⟩
  · rw [Nat.zero_add, hc, getElem!_pos s.data j hj]; rfl
  · have hj2 : j < s.size := hj
    have hlen : j < (bytesRow s cap).size := by
      have e : (bytesRow s cap).size = s.size + (cap - s.size) := by unfold bytesRow; simp
      omega
    simp [World.frozen?, hh]; omega

set_option maxHeartbeats 1000000 in
theorem reverse_any (s : ByteArray) (w : World) (hs : s.size ≤ 1048576) : Calls Tryd.prog 74 #[.string s] w fun e w' => GotStr s.data.toList.reverse e ∧ Below w.heap.size w w' := by
  have hconv := fun W => run_bytes_conv W s
  obtain ⟨cap, hcap⟩ : ∃ c, grownCap w s.size 0 5 = c := ⟨_, rfl⟩
  obtain ⟨w1, hw1⟩ : ∃ w1, w.drew.alloc (.cells (bytesRow s cap) 5 ((bytesRow s cap).size, (bytesRow s cap).size + 1)) = w1 := ⟨_, rfl⟩
  have hLd : Laid w1 w.heap.size s := by rw [← hw1]; exact Laid.new w.drew s cap
  have hb1 : Below w.heap.size w w1 := by rw [← hw1]; exact ((below_refl w).drew).alloc (Nat.le_refl _) _
  have hcv1 : (convert 9 35 (.string s)).run Tryd.prog w = .ok (.slice (some ⟨w.heap.size, 0, none⟩) s.size cap) w1 := by rw [hconv w, hcap, hw1]
  have HR : Hid (Calls Tryd.prog 98 #[.slice (some ⟨w.heap.size, 0, none⟩) s.size cap] w1 _) := Reverse_any w.heap.size 0 cap s.data w1 (holds_laid hLd) (by show s.size ≤ _; omega)
  have HL := Lib.hid hLd
  have HB1 := Lib.hid hb1
  clear hconv hcap hw1 hLd hb1
  go_enter Tryd.func74, Tryd.ntmps74
  go_wp2_with fail
  refine HR.out.mono ?_
  rintro e w2 ⟨rfl, n, rfl⟩
  obtain ⟨w2, hw2⟩ : ∃ w2, putRow encB (Sort.ahead w1 n) w.heap.size 0 s.data.reverse = w2 := ⟨_, rfl⟩
  rw [hw2]
  have hH2 : Holds encB w2 w.heap.size 0 s.data.reverse := by rw [← hw2]; exact holds_putRow encB _ _ 0 s.data _ (holds_ahead encB w1 n _ 0 _ (holds_laid HL.out)) (by simp)
  have HB2 : Hid (Below w.heap.size w w2) := by rw [← hw2]; exact below_putRow HB1.out n _ 0 _ (Nat.le_refl _)
  have hcv2 : (convert 35 9 (.slice (some ⟨w.heap.size, 0, none⟩) s.size cap)).run Tryd.prog w2 = .ok (.string ⟨s.data.toList.reverse.toArray⟩) w2 := by
    have hln : s.data.toList.reverse.length = s.size := by simp
    have := run_convert_bytes_back w2 35 9 5 ⟨w.heap.size, 0, none⟩ cap s.data.toList.reverse Tryd.underlying35 Tryd.underlying5 Tryd.underlying9 (fun j hj => by
      have h1 := (hH2 j (by simpa using hj)).1
      rw [Nat.zero_add] at h1
      rw [addr_at, h1, getElem!_pos _ _ (by simpa using hj)]
      simp [encB])
    rw [hln] at this
    exact this
  clear hw2 hH2 HR
  go_wp2_with fail
  go_ret
  exact ⟨⟨_, rfl, rfl⟩, HB2.out⟩

end Go.Proofs.YtkoagpeeohmokaaDoor
