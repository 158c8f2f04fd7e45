/- impl.NumOf and spec.l01Of: each returns numOf of the text; the walks of NumOf and Truth. -/
import Derived.Test.YtcjlokojppicnaaDoorBytes
import Derived.Test.YtcjlokojppicnaaDoorShelf
import Derived.Test.YtcjlokojppicnaaDoorNumMath
import Derived.Test.YtcjlokojppicnaaDoorNames
import Derived.Test.YtcjlokojppicnaaDoorExtract
import Derived.Shelf.Strings.SlTrimAscii
namespace Go.Proofs.YtcjlokojppicnaaDoor
open Go.RowKit
set_option linter.unusedVariables false

theorem Count_any (s : ByteArray) (w : World) : Calls Tryd.prog 56 #[.string s, .string ⟨#[45]⟩] w fun e w' => ∃ c : Nat, e = .returned (.int .i64 (c : Int)) ∧ c ≤ s.size ∧ Hid (c = s.data.toList.count 45) ∧ w = w' :=
  (Tryd.strings_Count_one s 45 w).mono fun e w' ⟨he, hw⟩ => ⟨_, he, by rw [ba_size]; exact List.count_le_length, rfl, hw.symm⟩

theorem num_arg (r F : ByteArray) (k : Nat) (HK : Hid (k = (NM.digs r.data.toList).length)) (hk : k ≤ r.size) (hF : F.size ≤ 1048576) (hr : r.size ≤ 1048576) (HF : Hid (∀ c ∈ F.data.toList, NM.dg c = true)) :
    ∃ A : ByteArray, r.extract 0 k ++ (F ++ ⟨#[48, 48, 48, 48, 48, 48]⟩).extract 0 6 = A ∧ A.size ≤ 4194304 ∧ A.data.toList = NM.digs r.data.toList ++ (F.data.toList ++ List.replicate 6 48).take 6 ∧ ∀ c ∈ A.data.toList, NM.dg c = true := by
  have e : (r.extract 0 k ++ (F ++ ⟨#[48, 48, 48, 48, 48, 48]⟩).extract 0 6).data.toList = NM.digs r.data.toList ++ (F.data.toList ++ List.replicate 6 48).take 6 := by
    have e1 : r.data.toList.take k = NM.digs r.data.toList := by rw [HK.out]; exact NM.take_digs _
    rw [← e1]
    have e2 : List.take (6 - F.size) [48, 48, 48, 48, 48, 48] = List.take (6 - F.data.toList.length) (List.replicate 6 (48 : UInt8)) := by rw [ba_size]; rfl
    rw [List.take_append, ← e2]
    simp [List.extract_eq_take_drop]
  refine ⟨_, rfl, ?_, e, ?_⟩
  · rw [ByteArray.size_append, ByteArray.size_extract, ByteArray.size_extract]; omega
  · rw [e]
    intro c hc
    rw [List.mem_append] at hc
    rcases hc with hc | hc
    · exact NM.digs_all _ c hc
    · have := List.mem_of_mem_take hc
      rw [List.mem_append] at this
      rcases this with h | h
      · exact HF.out c h
      · rw [List.eq_of_mem_replicate h]; decide

theorem num_neg (s r : ByteArray) (HR : Hid (r.data.toList = s.data.toList.dropWhile NM.sgn)) (c : Nat) (HC : Hid (c = (s.extract 0 (s.size - r.size)).data.toList.count 45)) : ((c : Int) % 2 == 1) = NM.neg s.data.toList := by
  have e : (s.extract 0 (s.size - r.size)).data.toList = s.data.toList.takeWhile NM.sgn := by
    rw [← NM.take_while_eq NM.sgn s.data.toList, ← HR.out, ← ba_size, ← ba_size]
    simp [List.extract_eq_take_drop]
  rw [NM.neg_count, ← e, ← HC.out, Bool.eq_iff_iff]
  simp; omega

theorem num_rest (r : ByteArray) (k : Nat) (HK : Hid (k = (NM.digs r.data.toList).length)) : (r.extract k r.size).data.toList = NM.afterDigs r.data.toList := by
  rw [← NM.drop_digs, ← HK.out]
  simp [List.extract_eq_take_drop]
  exact List.take_of_length_le (by rw [List.length_drop, ← ba_size]; omega)

end Go.Proofs.YtcjlokojppicnaaDoor
