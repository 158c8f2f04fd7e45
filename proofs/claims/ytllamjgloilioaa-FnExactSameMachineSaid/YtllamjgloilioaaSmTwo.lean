/- SameMachine: rows that hold a machine, loaded and stored whole. -/
import Derived.Test.YtllamjgloilioaaSmOne
namespace Go.Proofs.Ytllamjgloilioaa
open Go.RowKit Go.ChangeShapes Go.WideShapes Go.ChangeAt Go.Deep
set_option linter.unusedVariables false
set_option linter.unusedSimpArgs false

theorem Rd.ones {w : World} {lo hi : Nat} {t : Ty} {cs : List Value} {d : DV} (h : Rd w lo hi t cs d) : ∀ v ∈ cs, v.oneCell' = true := by
  induction h with
  | pair h1 h2 i1 i2 =>
    intro v hv
    rcases List.mem_append.1 hv with hv | hv
    · exact i1 v hv
    · exact i2 v hv
  | _ => intro v hv; first | (simp at hv; subst hv; rfl) | (simp at hv)

theorem Rd.all1 {w : World} {lo hi : Nat} {t : Ty} {cs : List Value} {d : DV} (h : Rd w lo hi t cs d) : cs.toArray.all (·.oneCell') = true := by
  rw [Array.all_eq_true']
  intro v hv
  exact h.ones v (by simpa using hv)

theorem yields_row {S : World → Prop} {o : Oper} {a : Act} (ty : TypeId) (x : Operand) (ho : o.op = .load ty x) (g : Nat) (hx : a.eval x = .pointer (some ⟨g, 0, none⟩)) (cs : Array Value) (t : TypeId) (fs : Array Field) (hS : ∀ W, S W → MIn W g cs t)
    (hu : Try.prog.underlying ty = some (.struct fs)) (hi : (Try.prog.info? ty).map (·.size) = some cs.size) : ∀ w, S w → (execOp a.eval o).run Try.prog w = .ok (.value (.agg cs)) w := by
  intro w hw
  unfold execOp
  simp only [ho, hx, Instr.loadAt, Instr.sureAddr, Sem.run_bind, Sem.run_pure, Result.andThen_ok, run_loadVar_row w g t ty cs (0, 0) (.struct fs) (hS w hw) hu rfl hi]

theorem MIn.row (w : World) (c Z : Array Value) (T : TypeId) : MIn ((w.alloc (.cells Z T)).setRow w.heap.size c) w.heap.size c T := _root_.Go.setRow_heap _ _ _ _ _ _ (heap_alloc_new w _)

theorem below_made (w : World) (c Z : Array Value) (T : TypeId) : Below w.heap.size w ((w.alloc (.cells Z T)).setRow w.heap.size c) := below_row (Nat.le_refl _) (Joins.below_alloc1 w _)

/-- Both arguments in their own blocks. -/
structure SM (w W : World) (c c2 : Array Value) (cs cs2 : List Value) (d d2 : DV) : Prop where
  bel : Below w.heap.size w W
  m1 : MIn W w.heap.size c 35
  m2 : MIn W (w.heap.size + 1) c2 35
  a1 : At W tyMachine cs d
  a2 : At W tyMachine cs2 d2

theorem SM.on {w W W' : World} {c c2 : Array Value} {cs cs2 : List Value} {d d2 : DV} (h : SM w W c c2 cs cs2 d d2) (hb : Below W.heap.size W W') : SM w W' c c2 cs cs2 d d2 :=
  ⟨below_trans h.bel hb, h.m1.on hb, h.m2.on hb, h.a1.on hb, h.a2.on hb⟩

theorem SM.start (w : World) (cs cs2 : List Value) (d d2 : DV) (h : At w tyMachine cs d) (h2 : At w tyMachine cs2 d2) :
    SM w ((w.alloc (.cells cs.toArray 35)).alloc (.cells cs2.toArray 35)) cs.toArray cs2.toArray cs cs2 d d2 := by
  have hba : Below w.heap.size w ((w.alloc (.cells cs.toArray 35)).alloc (.cells cs2.toArray 35)) := Joins.below_alloc2 w _ _
  exact ⟨hba, (MIn.two w _ _ _).1, (MIn.two w _ _ _).2, h.on hba, h2.on hba⟩

/-- A machine of impl's in a block of its own: the block, its data. -/
structure MI (W : World) (g : Nat) (u : Array Value) (us : List Value) (d : DV) : Prop where
  m : MIn W g u 49
  a : At W tyMachine us d

theorem MI.on {W W' : World} {g : Nat} {u : Array Value} {us : List Value} {d : DV} (h : MI W g u us d) (hb : Below W.heap.size W W') : MI W' g u us d := ⟨h.m.on hb, h.a.on hb⟩

theorem infoL_of {w : World} {lo hi : Nat} {cs : List Value} {d : DV} (h : Rd w lo hi tyMachine cs d) : (Try.prog.info? 35).map (·.size) = some cs.toArray.size := by rw [infoL]; simp [Rd.len h, mach_size]

theorem infoI_of {w : World} {lo hi : Nat} {cs : List Value} {d : DV} (h : Rd w lo hi tyMachine cs d) : (Try.prog.info? 49).map (·.size) = some cs.toArray.size := by rw [infoI]; simp [Rd.len h, mach_size]

theorem size_of {w : World} {lo hi : Nat} {cs : List Value} {d : DV} (h : Rd w lo hi tyMachine cs d) : 21 = cs.toArray.size := by simp [Rd.len h, mach_size]

end Go.Proofs.Ytllamjgloilioaa
