/- An argument that is a token, opened; the walk of TokenText. -/
import Derived.Test.YtablomklpmdboaaDoorReplace
import Derived.ProofKit
import Derived.Lib.SmallJoins
import Derived.Laws.Rows
namespace Go.Proofs.YtablomklpmdboaaDoor
open Go.RowKit Go.ChangeShapes Go.WideShapes Go.ChangeAt
set_option linter.unusedVariables false

set_option maxRecDepth 8000 in
theorem open_token {H : Type} {enc : TypeId × Value → H} {W : World} {base : Nat} {v : Value} {d : DataW H} {p : List MemPlace} (hk : Value.okWide Tryd.prog W .any base 27 v)
    (h : DataW.Trod enc Tryd.prog W 0 (fun _ => true) true 27 v d p) : ∃ x : Int × ByteArray × Int, v = .agg #[.int .i64 x.1, .string x.2.1, .int .i64 x.2.2] ∧ x.2.1.size ≤ maxLen := by
  obtain ⟨v0, v1, v2, y0, y1, y2, n, rfl, _, _, h0, h1, h2⟩ := Joins.open_agg3 Tryd.underlying27 (by kernel_rfl) (by kernel_rfl) hk h
  obtain ⟨a, ha, _, _⟩ := DataW.trod_int Tryd.underlying2 h0
  obtain ⟨s, hs, _, hz⟩ := DataW.trod_string Tryd.underlying9 h1
  obtain ⟨b, hb, _, _⟩ := DataW.trod_int Tryd.underlying2 h2
  simp only [List.cons.injEq, and_true] at ha hs hb
  subst ha hs hb
  exact ⟨(a, s, b), rfl, hz⟩

theorem toToken_any (k : Int) (s : ByteArray) (a : Int) (w : World) : Calls Tryd.prog 20 #[.agg #[.int .i64 k, .string s, .int .i64 a]] w fun e w' => e = .returned (.agg #[.int .i64 k, .string s, .int .i64 a]) ∧ Below w.heap.size w w' := by
  go_enter Tryd.func20, Tryd.ntmps20
  go_wp2
  refine bodyPost_ret (results_cell_row rfl _ _ (w.heap.size + 1) 30 #[.int .i64 k, .string s, .int .i64 a] (0, 0) _ rfl ?_ Tryd.underlying30 rfl (by kernel_rfl)) rfl ⟨rfl, Joins.below_alloc3 w _ _ _⟩
  rw [Below.heap_alloc _ _ _ (by simp), show w.heap.size + 1 = (w.alloc (.cells #[.int .i64 k, .string s, .int .i64 a] 27)).heap.size by simp]
  exact heap_alloc_new _ _

/-- Block g holds the token. -/
def TokAt (w : World) (g : Nat) (k : Int) (s : ByteArray) (a : Int) : Prop := w.cell? ⟨g, 0, none⟩ = some (.int .i64 k) ∧ w.cell? ⟨g, 1, none⟩ = some (.string s) ∧ w.cell? ⟨g, 2, none⟩ = some (.int .i64 a)

theorem TokAt.new (w : World) (k : Int) (s : ByteArray) (a : Int) (t : TypeId) : TokAt (w.alloc (.cells #[.int .i64 k, .string s, .int .i64 a] t)) w.heap.size k s a := by
  have h := heap_alloc_new w (.cells #[.int .i64 k, .string s, .int .i64 a] t)
  refine ⟨?_, ?_, ?_⟩ <;> (unfold World.cell?; rw [h]; rfl)

theorem TokAt.below {w w' : World} {g : Nat} {k : Int} {s : ByteArray} {a : Int} (h : TokAt w g k s a) (hb : Below w.heap.size w w') : TokAt w' g k s a :=
  ⟨(hb.cell (lt_of_cell h.1)).trans h.1, (hb.cell (lt_of_cell h.2.1)).trans h.2.1, (hb.cell (lt_of_cell h.2.2)).trans h.2.2⟩

theorem szToken_any (k : Int) (s : ByteArray) (a : Int) (w : World) (hs : s.size ≤ 9223372036854775807) : Calls Tryd.prog 18 #[.agg #[.int .i64 k, .string s, .int .i64 a], .int .i64 1048576] w fun e w' => (∃ q : Int, e = .returned (.int .i64 q) ∧ ((0 ≤ q ∧ s.size ≤ 1048576) ∨ (q < 0 ∧ 1048576 < s.size))) ∧ Below w.heap.size w w' := by
  by_cases h : s.size ≤ 1048576
  · go_enter Tryd.func18, Tryd.ntmps18
    go_wp2
    go_ret
    exact ⟨⟨_, rfl, by omega⟩, Joins.below_alloc1 w _⟩
  · go_enter Tryd.func18, Tryd.ntmps18
    go_wp2
    go_ret
    exact ⟨⟨_, rfl, by omega⟩, Joins.below_alloc1 w _⟩

def tokText (k : Int) (s : ByteArray) : List UInt8 := if k = 3 then quote s.data.toList else s.data.toList

theorem sTokenText_any (k : Int) (s : ByteArray) (a : Int) (w : World) (hs : s.size ≤ 1048576) : Calls Tryd.prog 19 #[.agg #[.int .i64 k, .string s, .int .i64 a]] w fun e w' => (∃ r : ByteArray, e = .returned (.string r) ∧ Hid (r.data.toList = tokText k s)) ∧ Below w.heap.size w w' := by
  rcases eqForms k 3 with ⟨e1, e2, e3⟩ | ⟨e1, e2, e3⟩
  · go_enter Tryd.func19, Tryd.ntmps19
    go_wp2_with fail
    refine (l04Quote_any s _ hs).mono ?_
    rintro e w1 ⟨⟨r1, rfl, hr1⟩, hb1⟩
    have H1 := Lib.hid hr1; clear hr1
    go_wp2_with fail
    go_ret
    exact ⟨⟨r1, rfl, by show _ = _; unfold tokText; rw [if_pos (by simpa using e1)]; exact H1.out⟩, below_trans (Joins.below_alloc1 w _) hb1⟩
  · go_enter Tryd.func19, Tryd.ntmps19
    go_wp2_with fail
    go_ret
    exact ⟨⟨s, rfl, by show _ = _; unfold tokText; rw [if_neg (by simpa using e1)]⟩, Joins.below_alloc1 w _⟩

theorem TokenText_any (k : Int) (s : ByteArray) (a : Int) (w : World) (hml : ML w) (hs : s.size ≤ 1048576) : Calls Tryd.prog 21 #[.agg #[.int .i64 k, .string s, .int .i64 a]] w fun e w' => (∃ r : ByteArray, e = .returned (.string r) ∧ Hid (r.data.toList = tokText k s)) ∧ Below w.heap.size w w' := by
  have HM := Lib.hid hml; clear hml
  rcases eqForms k 3 with ⟨e1, e2, e3⟩ | ⟨e1, e2, e3⟩
  · go_enter Tryd.func21, Tryd.ntmps21
    go_wp2_with fail
    refine (QuoteText_any s _ (HM.out.below (Joins.below_alloc1 w _)) hs).mono ?_
    rintro e w1 ⟨⟨r1, rfl, hr1⟩, hb1⟩
    have H1 := Lib.hid hr1; clear hr1
    go_wp2_with fail
    go_ret
    exact ⟨⟨r1, rfl, by show _ = _; unfold tokText; rw [if_pos (by simpa using e1)]; exact H1.out⟩, below_trans (Joins.below_alloc1 w _) hb1⟩
  · go_enter Tryd.func21, Tryd.ntmps21
    go_wp2_with fail
    go_ret
    exact ⟨⟨s, rfl, by show _ = _; unfold tokText; rw [if_neg (by simpa using e1)]⟩, Joins.below_alloc1 w _⟩

set_option maxHeartbeats 1000000 in
theorem TokenText_walk (v : Value) (x : Int × ByteArray × Int) (w : World) (hv : v = .agg #[.int .i64 x.1, .string x.2.1, .int .i64 x.2.2]) (hs : x.2.1.size ≤ maxLen) (hsh : w.ShapedOpen Tryd.prog) : Calls Tryd.prog 5 #[v] w fun e w' => e = .returned (.bool true) ∧ Below w.heap.size w w' := by
  subst hv
  obtain ⟨k, s, a⟩ := x
  simp only at hs ⊢
  have hs2 : s.size ≤ 9223372036854775807 := by unfold maxLen at hs; omega
  clear hs
  have HM := Lib.hid (ML.of_shaped hsh)
  clear hsh
  have hb0 : Below w.heap.size w (w.alloc (.cells #[.int .i64 k, .string s, .int .i64 a] 27)) := Joins.below_alloc1 w _
  have T0 := Lib.hid (TokAt.new w k s a 27)
  go_enter Tryd.func5, Tryd.ntmps5
  go_wp2_with fail
  refine (szToken_any k s a _ hs2).mono ?_
  rintro e w1 ⟨⟨q, rfl, hq⟩, hb1⟩
  have T1 := Lib.hid (T0.out.below hb1)
  have hb1' := below_trans hb0 hb1; clear hb0 hb1 T0
  rcases hq with ⟨hq, h⟩ | ⟨hq, h⟩
  · obtain ⟨c0, c1, c2⟩ := T1.out
    go_wp2_with fail
    refine (toToken_any k s a _).mono ?_
    rintro e w2 ⟨rfl, hb2⟩
    have T2 := Lib.hid (T1.out.below hb2)
    have hb2' := below_trans hb1' hb2; clear hb1' hb2 T1 c0 c1 c2
    go_wp2_with fail
    refine (sTokenText_any k s a _ h).mono ?_
    rintro e w3 ⟨⟨r1, rfl, H1⟩, hb3⟩
    have T3 := Lib.hid (T2.out.below hb3)
    have hb3' := below_trans hb2' hb3; clear hb2' hb3 T2
    obtain ⟨c0, c1, c2⟩ := T3.out
    go_wp2_with fail
    refine (toToken_any k s a _).mono ?_
    rintro e w4 ⟨rfl, hb4⟩
    have hb4' := below_trans hb3' hb4; clear hb3' hb4 T3 c0 c1 c2
    go_wp2_with fail
    refine (TokenText_any k s a _ (HM.out.below hb4') h).mono ?_
    rintro e w5 ⟨⟨r2, rfl, H2⟩, hb5⟩
    obtain rfl : r1 = r2 := ba_ext (H1.out.trans H2.out.symm)
    clear H2
    go_wp2_with fail
    go_ret
    exact ⟨rfl, below_trans hb4' hb5⟩
  · go_wp2_with fail
    go_ret
    exact ⟨rfl, hb1'⟩

end Go.Proofs.YtablomklpmdboaaDoor
