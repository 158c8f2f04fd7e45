/- OrderOf: both sides whole. -/
import Derived.Test.YtjfdlbbfodomeaaGreatDoorOrder3
namespace Go.Proofs.YtjfdlbbfodomeaaGreatDoor
open Go.RowKit Go.ChangeShapes Go.WideShapes Go.ChangeAt Go.Deep
set_option linter.unusedVariables false

/-- What both sides answer. -/
def ordA (ns : List NodeV) (name : ByteArray) (ys : List ByteArray) (back : Bool) : ByteArray := match ys.getLast? with | none => ⟨#[]⟩ | some l => ordB ns name ys.dropLast l back

theorem ordA_nil (ns : List NodeV) (name : ByteArray) (back : Bool) : ordA ns name [] back = ⟨#[]⟩ := rfl

theorem ordA_snoc (ns : List NodeV) (name : ByteArray) (zs : List ByteArray) (l : ByteArray) (back : Bool) : ordA ns name (zs ++ [l]) back = ordB ns name zs l back := by
  unfold ordA
  rw [List.getLast?_concat, List.dropLast_concat]

theorem ordA_dat {a b : List NodeV} (h : a.map NodeV.dat = b.map NodeV.dat) (name : ByteArray) (ys : List ByteArray) (back : Bool) : ordA a name ys back = ordA b name ys back := by
  unfold ordA
  cases ys.getLast? with
  | none => rfl
  | some l => exact ordB_dat h name _ l back

set_option maxHeartbeats 1000000 in
set_option maxRecDepth 8000 in
theorem OrderOf_any (v : Value) (ns : List NodeV) (name : ByteArray) (v2 : Value) (ys : List ByteArray) (back : Bool) (w : World) (hT : T10 w) (h : NodesAt w v ns) (hl : ns.length ≤ 1048576) (hok : ∀ x ∈ ns, x.Ok 1048576) (hn : name.size ≤ 1048576) (h2 : StrsAt w w.heap.size v2 ys) (hl2 : ys.length ≤ 1048576) (hz2 : ∀ x ∈ ys, x.size ≤ 1048576) :
    Calls Tryz.prog 25 #[.agg #[v], .string name, v2, .bool back] w fun e w' => e = .returned (.string (ordA ns name ys back)) ∧ Below w.heap.size w w' := by
  have T0 := Lib.hid (T1.new 29 h)
  have HT := Lib.hid (hT.below (Joins.below_alloc1 w (.cells #[v] 29)))
  have H2 := Lib.hid (h2.on (Joins.below_alloc1 w (.cells #[v] 29)))
  have HOK := Lib.hid hok; have HZ := Lib.hid hz2; clear hok hz2 hT
  obtain ⟨A, c, rfl, _, _⟩ := h
  obtain ⟨A2, c2, rfl, _, _⟩ := h2
  have ca := T0.out.a
  obtain ⟨T, hTr⟩ : ∃ T : Bool, treeOkB ns = T := ⟨_, rfl⟩
  obtain ⟨L, hLo⟩ : ∃ L : Bool, nameOk name = L := ⟨_, rfl⟩
  have HO := Lib.hid (TreeOk_any _ ns _ HT.out T0.out.2.2 hl HOK.out)
  rw [hTr] at HO
  have HTr := Lib.hid hTr; have HLo := Lib.hid hLo; clear hTr hLo
  have HF : Hid ((treeOkB ns && nameOk name) = false → ordA ns name ys back = ⟨#[]⟩) := fun hf => by
    rcases List.eq_nil_or_concat ys with rfl | ⟨zs, l, rfl⟩
    · rfl
    · rw [List.concat_eq_append, ordA_snoc]; unfold ordB
      rw [if_neg]
      rw [← Bool.and_assoc, hf]; simp
  have HN := Lib.hid (fun W => NameOk_any name W hn)
  rw [HLo.out] at HN
  go_enter Tryz.func25, Tryz.ntmps25
  go_wp2_with fail
  refine HO.out.mono ?_
  rintro e w1 ⟨rfl, b1⟩
  have TT1 := Lib.hid (T0.out.on b1)
  have H21 := Lib.hid (H2.out.on b1)
  have HT1 := Lib.hid (HT.out.below b1)
  clear ca b1 T0 HO H2 HT
  have ca := TT1.out.a
  cases T
  · go_wp2_with fail
    go_ret
    exact ⟨ret_str (HF.out (by rw [HTr.out]; rfl)).symm, TT1.out.1⟩
  · go_wp2_with fail
    refine (HN.out _).mono ?_
    rintro e w2 ⟨rfl, rfl⟩
    cases L
    · go_wp2_with fail
      go_ret
      exact ⟨ret_str (HF.out (by rw [HTr.out, HLo.out]; rfl)).symm, TT1.out.1⟩
    · rcases List.eq_nil_or_concat ys with rfl | ⟨zs, l, rfl⟩
      · go_wp2_with fail
        refine (orderable_nil _ _ _).mono ?_
        rintro e w3 ⟨rfl, rfl⟩
        go_wp2_with fail
        go_ret
        exact ⟨rfl, TT1.out.1⟩
      · simp only [List.concat_eq_append] at *
        have hlz : zs.length ≤ 1048575 := by simp at hl2; omega
        have HV := Lib.hid (orderable_any _ zs l _ _ H21.out hlz HZ.out)
        obtain ⟨O, hO⟩ : ∃ O : Bool, ordI zs l = O := ⟨_, rfl⟩
        rw [hO] at HV
        have HOO := Lib.hid hO; clear hO
        have hls : l.size ≤ 1048576 := HZ.out l (by simp)
        have HA := Lib.hid (order_any _ ns name _ zs l back _ HT1.out TT1.out.2.2 hl HOK.out H21.out hlz hls)
        have HR : Hid (ordA ns name (zs ++ [l]) back = if O = true then ordGo back name zs l ⟨#[]⟩ ns else ⟨#[]⟩) := by
          show _ = _
          rw [ordA_snoc]
          rw [← ordB_I, HTr.out, HLo.out, HOO.out]; simp
        have hlen : (zs ++ [l]).length = zs.length + 1 := by simp
        rw [hlen] at HV HA ⊢
        clear hlen
        cases O
        · go_wp2_with fail
          refine HV.out.mono ?_
          rintro e w3 ⟨rfl, rfl⟩
          go_wp2_with fail
          go_ret
          exact ⟨ret_str (by rw [List.concat_eq_append, HR.out]; rfl), TT1.out.1⟩
        · go_wp2_with fail
          refine HV.out.mono ?_
          rintro e w3 ⟨rfl, rfl⟩
          go_wp2_with fail
          refine HA.out.mono ?_
          rintro e w4 ⟨rfl, b4⟩
          go_wp2_with fail
          go_ret
          exact ⟨ret_str (by rw [List.concat_eq_append, HR.out]; rfl), below_trans TT1.out.1 b4⟩

set_option maxHeartbeats 1000000 in
set_option maxRecDepth 8000 in
theorem sOrderOf_any (v : Value) (ns : List NodeV) (name : ByteArray) (v2 : Value) (ys : List ByteArray) (back : Bool) (w : World) (hT : T10 w) (h : NodesAt w v ns) (hl : ns.length ≤ 1048576) (hok : ∀ x ∈ ns, x.Ok 1048576) (hn : name.size ≤ 1048576) (h2 : StrsAt w w.heap.size v2 ys) (hl2 : ys.length ≤ 1048576) (hz2 : ∀ x ∈ ys, x.size ≤ 1048576) :
    Calls Tryz.prog 24 #[.agg #[v], .string name, v2, .bool back] w fun e w' => e = .returned (.string (ordA ns name ys back)) ∧ Below w.heap.size w w' := by
  have T0 := Lib.hid (T1.new 29 h)
  have HT := Lib.hid (hT.below (Joins.below_alloc1 w (.cells #[v] 29)))
  have H2 := Lib.hid (h2.on (Joins.below_alloc1 w (.cells #[v] 29)))
  have HOK := Lib.hid hok; have HZ := Lib.hid hz2; clear hok hz2 hT
  obtain ⟨A, c, rfl, _, _⟩ := h
  obtain ⟨A2, c2, rfl, _, _⟩ := h2
  have ca := T0.out.a
  obtain ⟨T, hTr⟩ : ∃ T : Bool, treeOkB ns = T := ⟨_, rfl⟩
  obtain ⟨L, hLo⟩ : ∃ L : Bool, nameOk name = L := ⟨_, rfl⟩
  have HO := Lib.hid (sTreeOk_any _ ns _ T0.out.2.2 hl HOK.out)
  rw [hTr] at HO
  have HTr := Lib.hid hTr; have HLo := Lib.hid hLo; clear hTr hLo
  have HF : Hid ((treeOkB ns && nameOk name) = false → ordA ns name ys back = ⟨#[]⟩) := fun hf => by
    rcases List.eq_nil_or_concat ys with rfl | ⟨zs, l, rfl⟩
    · rfl
    · rw [List.concat_eq_append, ordA_snoc]; unfold ordB
      rw [if_neg]
      rw [← Bool.and_assoc, hf]; simp
  have HN := Lib.hid (fun W => sNameOk_any name W hn)
  rw [HLo.out] at HN
  go_enter Tryz.func24, Tryz.ntmps24
  go_wp2_with fail
  refine HO.out.mono ?_
  rintro e w1 ⟨rfl, b1⟩
  have TT1 := Lib.hid (T0.out.on b1)
  have H21 := Lib.hid (H2.out.on b1)
  have HT1 := Lib.hid (HT.out.below b1)
  clear ca b1 T0 HO H2 HT
  have ca := TT1.out.a
  cases T
  · go_wp2_with fail
    go_ret
    exact ⟨ret_str (HF.out (by rw [HTr.out]; rfl)).symm, TT1.out.1⟩
  · go_wp2_with fail
    refine (HN.out _).mono ?_
    rintro e w2 ⟨rfl, rfl⟩
    cases L
    · go_wp2_with fail
      go_ret
      exact ⟨ret_str (HF.out (by rw [HTr.out, HLo.out]; rfl)).symm, TT1.out.1⟩
    · rcases List.eq_nil_or_concat ys with rfl | ⟨zs, l, rfl⟩
      · go_wp2_with fail
        refine (l03Level_nil _ _ _).mono ?_
        rintro e w3 ⟨rfl, rfl⟩
        go_wp2_with fail
        go_ret
        exact ⟨rfl, TT1.out.1⟩
      · simp only [List.concat_eq_append] at *
        have hlz : zs.length ≤ 1048575 := by simp at hl2; omega
        have HV := Lib.hid (l03Level_any _ zs l _ _ H21.out hlz HZ.out)
        obtain ⟨O, hO⟩ : ∃ O : Bool, ordS zs l = O := ⟨_, rfl⟩
        rw [hO] at HV
        have HOO := Lib.hid hO; clear hO
        have hls : l.size ≤ 1048576 := HZ.out l (by simp)
        have HA := Lib.hid (l03Order_any _ ns name _ zs l back _ TT1.out.2.2 hl HOK.out H21.out hlz hls)
        have HR : Hid (ordA ns name (zs ++ [l]) back = if O = true then ordGo back name zs l ⟨#[]⟩ ns else ⟨#[]⟩) := by
          show _ = _
          rw [ordA_snoc]
          unfold ordB; rw [HTr.out, HLo.out, HOO.out]; simp
        have hlen : (zs ++ [l]).length = zs.length + 1 := by simp
        rw [hlen] at HV HA ⊢
        clear hlen
        cases O
        · go_wp2_with fail
          refine HV.out.mono ?_
          rintro e w3 ⟨rfl, rfl⟩
          go_wp2_with fail
          go_ret
          exact ⟨ret_str (by rw [List.concat_eq_append, HR.out]; rfl), TT1.out.1⟩
        · go_wp2_with fail
          refine HV.out.mono ?_
          rintro e w3 ⟨rfl, rfl⟩
          go_wp2_with fail
          refine HA.out.mono ?_
          rintro e w4 ⟨rfl, b4⟩
          go_wp2_with fail
          go_ret
          exact ⟨ret_str (by rw [List.concat_eq_append, HR.out]; rfl), below_trans TT1.out.1 b4⟩

end Go.Proofs.YtjfdlbbfodomeaaGreatDoor
