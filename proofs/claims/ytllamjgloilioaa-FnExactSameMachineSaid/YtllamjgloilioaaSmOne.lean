/- SameMachine: an argument that is a machine, opened; spec's side. -/
import Derived.Test.YtllamjgloilioaaDvMach2
import Derived.Test.YtllamjgloilioaaDvMach3
import Derived.Test.YtllamjgloilioaaDvMach4
import Derived.Test.YtllamjgloilioaaDvMach5
import Derived.Deep.RegionHeld3
import Derived.Laws.Tables
import Derived.Laws.Rows
namespace Go.Proofs.Ytllamjgloilioaa
open Go.RowKit Go.ChangeShapes Go.WideShapes Go.ChangeAt Go.Deep
set_option linter.unusedVariables false
set_option linter.unusedSimpArgs false

theorem shaped_machine : shaped Try.prog 12 35 tyMachine = true := by kernel_rfl

set_option maxRecDepth 100000 in
theorem open_machineV {H : Type} {enc : TypeId × Value → H} {W : World} {base : Nat} {v : Value} {d : DataW H} {p : List MemPlace} (hk : Value.okWide Try.prog W .any base 35 v)
    (h : DataW.Trod enc Try.prog W 0 (fun _ => true) true 35 v d p) : ∃ x : List Value × DV, v = .agg x.1.toArray ∧ At W tyMachine x.1 x.2 ∧ Fits maxLen x.2 := by
  obtain ⟨cs, rfl, hsz⟩ := okWide_struct Try.underlying35 hk
  obtain ⟨fuel, hf⟩ := h
  obtain ⟨d', h1, h2⟩ := reads_of_trod 12 fuel _ _ _ _ shaped_machine hf
  exact ⟨(cs.toList, d'), by simp, (by have h3 := h1; simp only [Value.cells] at h3; exact h3), h2⟩

theorem mach_size : tyMachine.size = 21 := by kernel_rfl

/-- A block that holds a machine. -/
def MIn (w : World) (g : Nat) (c : Array Value) (T : TypeId) : Prop := w.heap[g]? = some (.cells c T (0, 0))

theorem MIn.lt {w : World} {g : Nat} {c : Array Value} {T : TypeId} (h : MIn w g c T) : g < w.heap.size := (Array.getElem?_eq_some_iff.1 h).1

theorem MIn.on {w w' : World} {g : Nat} {c : Array Value} {T : TypeId} (h : MIn w g c T) (hb : Below w.heap.size w w') : MIn w' g c T := (hb.block g h.lt).trans h

theorem MIn.two (w : World) (c c2 : Array Value) (T : TypeId) : MIn ((w.alloc (.cells c T)).alloc (.cells c2 T)) w.heap.size c T ∧ MIn ((w.alloc (.cells c T)).alloc (.cells c2 T)) (w.heap.size + 1) c2 T := by
  refine ⟨?_, ?_⟩
  · show _ = _
    rw [Below.heap_alloc _ _ _ (by simp)]
    exact heap_alloc_new _ _
  · have := heap_alloc_new (w.alloc (.cells c T)) (.cells c2 T)
    rw [show (w.alloc (.cells c T)).heap.size = w.heap.size + 1 by simp] at this
    exact this

theorem infoL : (Try.prog.info? 35).map (·.size) = some 21 := by kernel_rfl

theorem infoI : (Try.prog.info? 49).map (·.size) = some 21 := by kernel_rfl

set_option maxHeartbeats 4000000 in
set_option maxRecDepth 8000 in
theorem sSameMachine_dv (cs cs2 : List Value) (d d2 : DV) (w : World) (h : At w tyMachine cs d) (h2 : At w tyMachine cs2 d2) (hf : Fits 1048576 d) :
    Calls Try.prog 5 #[.agg cs.toArray, .agg cs2.toArray] w fun e w' => GotB e d d2 ∧ Below w.heap.size w w' := by
  have hba : Below w.heap.size w ((w.alloc (.cells cs.toArray 49)).alloc (.cells cs2.toArray 49)) := Joins.below_alloc2 w _ _
  have HL := Lib.hid (l14Same_dv cs cs2 d d2 _ (h.on hba) (h2.on hba) hf)
  obtain ⟨m1, m2⟩ := MIn.two w cs.toArray cs2.toArray 49
  have M1 := Lib.hid m1
  have M2 := Lib.hid m2
  have Z1 : Hid ((Try.prog.info? 49).map (·.size) = some cs.toArray.size) := by show _ = _; rw [infoI]; simp [Rd.len h, mach_size]
  have Z2 : Hid ((Try.prog.info? 49).map (·.size) = some cs2.toArray.size) := by show _ = _; rw [infoI]; simp [Rd.len h2, mach_size]
  have HBA := Lib.hid hba
  clear h h2 hba m1 m2
  generalize cs.toArray = c at *
  generalize cs2.toArray = c2 at *
  go_enter Try.func5, Try.ntmps5
  go_wp2_with (first | (refine wpList_load_row rfl 49 _ rfl w.heap.size rfl 49 c (0, 0) _ M1.out Try.underlying49 rfl Z1.out ?_) | (refine wpList_load_row rfl 49 _ rfl (w.heap.size + 1) rfl 49 c2 (0, 0) _ M2.out Try.underlying49 rfl Z2.out ?_))
  refine HL.out.mono ?_
  rintro e w1 ⟨⟨r, rfl, HE⟩, b1⟩
  have B1 := Lib.hid (below_trans HBA.out b1)
  have HEE := Lib.hid HE; clear HE
  go_wp2_with fail
  go_ret
  exact ⟨⟨r, rfl, HEE.out⟩, B1.out⟩

end Go.Proofs.Ytllamjgloilioaa
