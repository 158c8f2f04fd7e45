/- BinOp: both sides whole, and the law. -/
import Derived.Test.YtkoagpeeohmokaaGreatDoorBinRA
import Derived.Test.YtkoagpeeohmokaaGreatDoorBinRC
namespace Go.Proofs.YtkoagpeeohmokaaGreatDoor
open Go.RowKit
set_option linter.unusedVariables false

theorem sbinRel_any (op a b : ByteArray) (w : World) (hT : T10 w) (hml : ML w) (hop : op.size ≤ 1048576) (ha : a.size ≤ 1048576) (hb : b.size ≤ 1048576) (h1 : (op.toList == [43]) = false) (h2 : (op.toList == [45]) = false) (h3 : (op.toList == [42]) = false) (h4 : (op.toList == [47]) = false) (h5 : (op.toList == [92]) = false) (h6 : (op.toList == [35]) = false) (h7 : (op.toList == [95]) = false) :
    Calls Tryz.prog 43 #[.string op, .string a, .string b] w fun e w' => GotBin (relRes op.data.toList a b) e ∧ Below w.heap.size w w' := by
  by_cases hq : op.size = 2 ∧ op.data.toList.head? = some 39
  · exact sbinRelA op a b w hT hml hop ha hb h1 h2 h3 h4 h5 h6 h7 hq
  have hcase : (((op.size : Int) == 2) = false ∧ (op.size == 2) = false) ∨ (((op.size : Int) == 2) = true ∧ (op.size == 2) = true ∧ ∃ h0 : 0 < op.size, ((op[0].toNat : Int) == 39) = false) := by
    by_cases hs : op.size = 2
    · right
      refine ⟨by simp; omega, by simp [hs], by omega, ?_⟩
      have h39 : ¬ op[0] = 39 := fun e => hq ⟨hs, by rw [List.head?_eq_getElem?, Lib.data_getElem? op 0 (by omega), e]⟩
      rw [beq_eq_false_iff_ne]
      intro e
      exact h39 (UInt8.toNat_inj.1 (by have : (39 : UInt8).toNat = 39 := rfl; omega))
    · left
      exact ⟨by simp; omega, by simpa using hs⟩
  rcases hcase with ⟨e1, e2⟩ | ⟨e1, e2, h0, e3⟩
  · exact sbinRelB op a b w hT hml hop ha hb h1 h2 h3 h4 h5 h6 h7 hq e1 e2
  · exact sbinRelC op a b w hT hml hop ha hb h1 h2 h3 h4 h5 h6 h7 hq e1 e2 h0 e3

theorem binAdd_at (a b : ByteArray) (w : World) (hT : T10 w) (ha : a.size ≤ 1048576) (hb : b.size ≤ 1048576) : Calls Tryz.prog 44 #[.string ⟨#[43]⟩, .string a, .string b] w fun e w' => GotBin (arRes (addNum (NM.numOf a.data.toList) (NM.numOf b.data.toList))) e ∧ Below w.heap.size w w' := binAdd a b w hT ha hb

theorem sbinAdd_at (a b : ByteArray) (w : World) (hT : T10 w) (ha : a.size ≤ 1048576) (hb : b.size ≤ 1048576) : Calls Tryz.prog 43 #[.string ⟨#[43]⟩, .string a, .string b] w fun e w' => GotBin (arRes (addNum (NM.numOf a.data.toList) (NM.numOf b.data.toList))) e ∧ Below w.heap.size w w' := sbinAdd a b w ha hb

theorem binSub_at (a b : ByteArray) (w : World) (hT : T10 w) (ha : a.size ≤ 1048576) (hb : b.size ≤ 1048576) : Calls Tryz.prog 44 #[.string ⟨#[45]⟩, .string a, .string b] w fun e w' => GotBin (arRes (subNum (NM.numOf a.data.toList) (NM.numOf b.data.toList))) e ∧ Below w.heap.size w w' := binSub a b w hT ha hb

theorem sbinSub_at (a b : ByteArray) (w : World) (hT : T10 w) (ha : a.size ≤ 1048576) (hb : b.size ≤ 1048576) : Calls Tryz.prog 43 #[.string ⟨#[45]⟩, .string a, .string b] w fun e w' => GotBin (arRes (subNum (NM.numOf a.data.toList) (NM.numOf b.data.toList))) e ∧ Below w.heap.size w w' := sbinSub a b w ha hb

theorem binMul_at (a b : ByteArray) (w : World) (hT : T10 w) (ha : a.size ≤ 1048576) (hb : b.size ≤ 1048576) : Calls Tryz.prog 44 #[.string ⟨#[42]⟩, .string a, .string b] w fun e w' => GotBin (arRes (mulNum (NM.numOf a.data.toList) (NM.numOf b.data.toList))) e ∧ Below w.heap.size w w' := binMul a b w hT ha hb

theorem sbinMul_at (a b : ByteArray) (w : World) (hT : T10 w) (ha : a.size ≤ 1048576) (hb : b.size ≤ 1048576) : Calls Tryz.prog 43 #[.string ⟨#[42]⟩, .string a, .string b] w fun e w' => GotBin (arRes (mulNum (NM.numOf a.data.toList) (NM.numOf b.data.toList))) e ∧ Below w.heap.size w w' := sbinMul a b w ha hb

theorem binDiv_at (a b : ByteArray) (w : World) (hT : T10 w) (ha : a.size ≤ 1048576) (hb : b.size ≤ 1048576) : Calls Tryz.prog 44 #[.string ⟨#[47]⟩, .string a, .string b] w fun e w' => GotBin (arRes (divNum (NM.numOf a.data.toList) (NM.numOf b.data.toList))) e ∧ Below w.heap.size w w' := binDiv a b w hT ha hb

theorem sbinDiv_at (a b : ByteArray) (w : World) (hT : T10 w) (ha : a.size ≤ 1048576) (hb : b.size ≤ 1048576) : Calls Tryz.prog 43 #[.string ⟨#[47]⟩, .string a, .string b] w fun e w' => GotBin (arRes (divNum (NM.numOf a.data.toList) (NM.numOf b.data.toList))) e ∧ Below w.heap.size w w' := sbinDiv a b w ha hb

theorem binInt_at (a b : ByteArray) (w : World) (hT : T10 w) (ha : a.size ≤ 1048576) (hb : b.size ≤ 1048576) : Calls Tryz.prog 44 #[.string ⟨#[92]⟩, .string a, .string b] w fun e w' => GotBin (arRes (intDiv (NM.numOf a.data.toList) (NM.numOf b.data.toList))) e ∧ Below w.heap.size w w' := binInt a b w hT ha hb

theorem sbinInt_at (a b : ByteArray) (w : World) (hT : T10 w) (ha : a.size ≤ 1048576) (hb : b.size ≤ 1048576) : Calls Tryz.prog 43 #[.string ⟨#[92]⟩, .string a, .string b] w fun e w' => GotBin (arRes (intDiv (NM.numOf a.data.toList) (NM.numOf b.data.toList))) e ∧ Below w.heap.size w w' := sbinInt a b w ha hb

theorem binMod_at (a b : ByteArray) (w : World) (hT : T10 w) (ha : a.size ≤ 1048576) (hb : b.size ≤ 1048576) : Calls Tryz.prog 44 #[.string ⟨#[35]⟩, .string a, .string b] w fun e w' => GotBin (arRes (modNum (NM.numOf a.data.toList) (NM.numOf b.data.toList))) e ∧ Below w.heap.size w w' := binMod a b w hT ha hb

theorem sbinMod_at (a b : ByteArray) (w : World) (hT : T10 w) (ha : a.size ≤ 1048576) (hb : b.size ≤ 1048576) : Calls Tryz.prog 43 #[.string ⟨#[35]⟩, .string a, .string b] w fun e w' => GotBin (arRes (modNum (NM.numOf a.data.toList) (NM.numOf b.data.toList))) e ∧ Below w.heap.size w w' := sbinMod a b w ha hb

theorem binRel_at (op a b : ByteArray) (w : World) (hT : T10 w) (hml : ML w) (hop : op.size ≤ 1048576) (ha : a.size ≤ 1048576) (hb : b.size ≤ 1048576) (h1 : (op.toList == [43]) = false) (h2 : (op.toList == [45]) = false) (h3 : (op.toList == [42]) = false) (h4 : (op.toList == [47]) = false) (h5 : (op.toList == [92]) = false) (h6 : (op.toList == [35]) = false) (h7 : (op.toList == [95]) = false) :
    Calls Tryz.prog 44 #[.string op, .string a, .string b] w fun e w' => GotBin (relRes op.data.toList a b) e ∧ Below w.heap.size w w' := binRel_any op a b w hT hml ha hb h1 h2 h3 h4 h5 h6 h7

theorem sbinRel_at (op a b : ByteArray) (w : World) (hT : T10 w) (hml : ML w) (hop : op.size ≤ 1048576) (ha : a.size ≤ 1048576) (hb : b.size ≤ 1048576) (h1 : (op.toList == [43]) = false) (h2 : (op.toList == [45]) = false) (h3 : (op.toList == [42]) = false) (h4 : (op.toList == [47]) = false) (h5 : (op.toList == [92]) = false) (h6 : (op.toList == [35]) = false) (h7 : (op.toList == [95]) = false) :
    Calls Tryz.prog 43 #[.string op, .string a, .string b] w fun e w' => GotBin (relRes op.data.toList a b) e ∧ Below w.heap.size w w' := sbinRel_any op a b w hT hml hop ha hb h1 h2 h3 h4 h5 h6 h7

/-- What BinOp answers for operands that are not too long. -/
def binV (op : List UInt8) (a b : ByteArray) : List UInt8 × Int :=
  if op = [43] then arRes (addNum (NM.numOf a.data.toList) (NM.numOf b.data.toList))
  else if op = [45] then arRes (subNum (NM.numOf a.data.toList) (NM.numOf b.data.toList))
  else if op = [42] then arRes (mulNum (NM.numOf a.data.toList) (NM.numOf b.data.toList))
  else if op = [47] then arRes (divNum (NM.numOf a.data.toList) (NM.numOf b.data.toList))
  else if op = [92] then arRes (intDiv (NM.numOf a.data.toList) (NM.numOf b.data.toList))
  else if op = [35] then arRes (modNum (NM.numOf a.data.toList) (NM.numOf b.data.toList))
  else if op = [95] then joinRes a b
  else relRes op a b

theorem binAll_any (op a b : ByteArray) (w : World) (hT : T10 w) (hml : ML w) (hop : op.size ≤ 1048576) (ha : a.size ≤ 1048576) (hb : b.size ≤ 1048576) : Calls Tryz.prog 44 #[.string op, .string a, .string b] w fun e w' => GotBin (binV op.data.toList a b) e ∧ Below w.heap.size w w' := by
  rcases strCase op [43] with rfl | ⟨h1, H1⟩
  · exact binAdd_at a b w hT ha hb
  rcases strCase op [45] with rfl | ⟨h2, H2⟩
  · exact binSub_at a b w hT ha hb
  rcases strCase op [42] with rfl | ⟨h3, H3⟩
  · exact binMul_at a b w hT ha hb
  rcases strCase op [47] with rfl | ⟨h4, H4⟩
  · exact binDiv_at a b w hT ha hb
  rcases strCase op [92] with rfl | ⟨h5, H5⟩
  · exact binInt_at a b w hT ha hb
  rcases strCase op [35] with rfl | ⟨h6, H6⟩
  · exact binMod_at a b w hT ha hb
  rcases strCase op [95] with rfl | ⟨h7, H7⟩
  · exact binJoin_any a b w ha hb
  have hV : binV op.data.toList a b = relRes op.data.toList a b := by
    unfold binV
    rw [if_neg H1.out, if_neg H2.out, if_neg H3.out, if_neg H4.out, if_neg H5.out, if_neg H6.out, if_neg H7.out]
  rw [hV]
  exact binRel_at op a b w hT hml hop ha hb h1 h2 h3 h4 h5 h6 h7

theorem sbinAll_any (op a b : ByteArray) (w : World) (hT : T10 w) (hml : ML w) (hop : op.size ≤ 1048576) (ha : a.size ≤ 1048576) (hb : b.size ≤ 1048576) : Calls Tryz.prog 43 #[.string op, .string a, .string b] w fun e w' => GotBin (binV op.data.toList a b) e ∧ Below w.heap.size w w' := by
  rcases strCase op [43] with rfl | ⟨h1, H1⟩
  · exact sbinAdd_at a b w hT ha hb
  rcases strCase op [45] with rfl | ⟨h2, H2⟩
  · exact sbinSub_at a b w hT ha hb
  rcases strCase op [42] with rfl | ⟨h3, H3⟩
  · exact sbinMul_at a b w hT ha hb
  rcases strCase op [47] with rfl | ⟨h4, H4⟩
  · exact sbinDiv_at a b w hT ha hb
  rcases strCase op [92] with rfl | ⟨h5, H5⟩
  · exact sbinInt_at a b w hT ha hb
  rcases strCase op [35] with rfl | ⟨h6, H6⟩
  · exact sbinMod_at a b w hT ha hb
  rcases strCase op [95] with rfl | ⟨h7, H7⟩
  · exact sbinJoin_any a b w ha hb
  have hV : binV op.data.toList a b = relRes op.data.toList a b := by
    unfold binV
    rw [if_neg H1.out, if_neg H2.out, if_neg H3.out, if_neg H4.out, if_neg H5.out, if_neg H6.out, if_neg H7.out]
  rw [hV]
  exact sbinRel_at op a b w hT hml hop ha hb h1 h2 h3 h4 h5 h6 h7

def binW (op a b : ByteArray) : List UInt8 × Int := if (long64 a || long64 b) = true then ([], 1) else binV op.data.toList a b

theorem long_two (a b : ByteArray) (w : World) (ha : a.size ≤ 1048576) (hb : b.size ≤ 1048576) : Calls Tryz.prog 28 #[.slice (some ⟨w.heap.size, 0, none⟩) 2 2] (w.alloc (.cells #[.string a, .string b] 9)) fun e w' => e = .returned (.bool (long64 a || long64 b)) ∧ (w.alloc (.cells #[.string a, .string b] 9)) = w' := by
  have h : Strs (w.alloc (.cells #[.string a, .string b] 9)) w.heap.size (.slice (some ⟨w.heap.size, 0, none⟩) 2 2) [a, b] := World.ownsRow_lit w #[.string a, .string b] 2 (Nat.le_refl _) (by unfold maxLen; omega) rfl
  refine (long_any _ [a, b] _ _ h.at_ (by simp) (by simp; exact ⟨ha, hb⟩)).mono ?_
  rintro e w' ⟨rfl, hw⟩
  exact ⟨by simp, hw⟩

theorem BinOp_any (op a b : ByteArray) (w : World) (hT : T10 w) (hml : ML w) (hop : op.size ≤ 1048576) (ha : a.size ≤ 1048576) (hb : b.size ≤ 1048576) : Calls Tryz.prog 20 #[.string op, .string a, .string b] w fun e w' => GotBin (binW op a b) e ∧ Below w.heap.size w w' := by
  have hba : Below w.heap.size w (w.alloc (.cells #[.string a, .string b] 9)) := Joins.below_alloc1 w _
  have HL := Lib.hid (long_two a b w ha hb)
  have HB := Lib.hid (binAll_any op a b _ (hT.below hba) (hml.below hba) hop ha hb)
  have HV : Hid (binW op a b = if (long64 a || long64 b) = true then ([], 1) else binV op.data.toList a b) := rfl
  generalize binW op a b = V at *
  generalize binV op.data.toList a b = U at *
  generalize (long64 a || long64 b) = L at *
  clear hT hml
  cases L
  · go_enter Tryz.func20, Tryz.ntmps20
    go_wp2_with fail
    refine HL.out.mono ?_
    rintro e w' ⟨rfl, rfl⟩
    go_wp2_with fail
    refine HB.out.mono ?_
    rintro e w2 ⟨⟨r, c, rfl, hr⟩, b2⟩
    have HR := Lib.hid hr
    have HB2 := Lib.hid (below_trans hba b2)
    clear hr b2
    go_wp2_with fail
    go_ret2
    exact ⟨⟨r, c, rfl, by rw [HV.out]; exact HR.out⟩, HB2.out⟩
  · go_enter Tryz.func20, Tryz.ntmps20
    go_wp2_with fail
    refine HL.out.mono ?_
    rintro e w' ⟨rfl, rfl⟩
    go_wp2_with fail
    go_ret2
    exact ⟨⟨_, _, rfl, by rw [HV.out]; rfl⟩, hba⟩

theorem sBinOp_any (op a b : ByteArray) (w : World) (hT : T10 w) (hml : ML w) (hop : op.size ≤ 1048576) (ha : a.size ≤ 1048576) (hb : b.size ≤ 1048576) : Calls Tryz.prog 19 #[.string op, .string a, .string b] w fun e w' => GotBin (binW op a b) e ∧ Below w.heap.size w w' := by
  have HB := Lib.hid (sbinAll_any op a b _ hT hml hop ha hb)
  have HV : Hid (binW op a b = if (long64 a || long64 b) = true then ([], 1) else binV op.data.toList a b) := rfl
  generalize binW op a b = V at *
  generalize binV op.data.toList a b = U at *
  clear hT hml
  by_cases h1 : 64 < a.size
  · have HV2 : Hid (V = ([], 1)) := by show _ = _; rw [HV.out, show long64 a = true from decide_eq_true h1]; rfl
    go_enter Tryz.func19, Tryz.ntmps19
    go_wp2_with fail
    go_ret2
    exact ⟨⟨_, _, rfl, HV2.out.symm⟩, below_refl _⟩
  by_cases h2 : 64 < b.size
  · have HV2 : Hid (V = ([], 1)) := by show _ = _; rw [HV.out, show long64 b = true from decide_eq_true h2, Bool.or_true]; rfl
    go_enter Tryz.func19, Tryz.ntmps19
    go_wp2_with fail
    go_ret2
    exact ⟨⟨_, _, rfl, HV2.out.symm⟩, below_refl _⟩
  have HV2 : Hid (V = U) := by show _ = _; rw [HV.out, show long64 a = false from decide_eq_false h1, show long64 b = false from decide_eq_false h2]; rfl
  go_enter Tryz.func19, Tryz.ntmps19
  go_wp2_with fail
  refine HB.out.mono ?_
  rintro e w2 ⟨⟨r, c, rfl, hr⟩, b2⟩
  have HR := Lib.hid hr
  have HB2 := Lib.hid b2
  clear hr b2
  go_wp2_with fail
  go_ret2
  exact ⟨⟨r, c, rfl, by rw [HV2.out]; exact HR.out⟩, HB2.out⟩

theorem BinOp_walk (op : ByteArray) (ho : op.size ≤ maxLen) (a : ByteArray) (ha : a.size ≤ maxLen) (b : ByteArray) (hb : b.size ≤ maxLen) (w : World) (hL : laidMetH Tryz.prog Rows.fnExactPureFunRow.laid w) (hsh : w.ShapedOpen Tryz.prog) : Calls Tryz.prog 5 #[.string op, .string a, .string b] w fun e w' => e = .returned (.bool true) ∧ Below w.heap.size w w' := by
  have HT := Lib.hid (T10.of_laid hL); have HM := Lib.hid (ML.of_shaped hsh); clear hL hsh
  unfold maxLen at ho ha hb
  by_cases h1 : op.size ≤ 1048576
  rotate_left
  · go_enter Tryz.func5, Tryz.ntmps5
    go_wp2_with fail
    go_ret
    exact ⟨rfl, below_refl _⟩
  by_cases h2 : a.size ≤ 1048576
  rotate_left
  · go_enter Tryz.func5, Tryz.ntmps5
    go_wp2_with fail
    go_ret
    exact ⟨rfl, below_refl _⟩
  by_cases h3 : b.size ≤ 1048576
  rotate_left
  · go_enter Tryz.func5, Tryz.ntmps5
    go_wp2_with fail
    go_ret
    exact ⟨rfl, below_refl _⟩
  go_enter Tryz.func5, Tryz.ntmps5
  go_wp2_with fail
  refine (sBinOp_any op a b _ HT.out HM.out h1 h2 h3).mono ?_
  rintro e w1 ⟨⟨r1, c1, rfl, H1⟩, hb1⟩
  have HH1 := Lib.hid H1; clear H1
  go_wp2_with fail
  refine (BinOp_any op a b _ (HT.out.below hb1) (HM.out.below hb1) h1 h2 h3).mono ?_
  rintro e w2 ⟨⟨r2, c2, rfl, H2⟩, hb2⟩
  have he := HH1.out.trans H2.symm
  obtain rfl : r1 = r2 := ba_ext (congrArg Prod.fst he)
  obtain rfl : c1 = c2 := congrArg Prod.snd he
  clear he HH1 H2
  go_wp2_with fail
  go_ret
  exact ⟨rfl, below_trans hb1 hb2⟩

end Go.Proofs.YtkoagpeeohmokaaGreatDoor
