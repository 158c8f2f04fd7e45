/- impl.NumOf and spec.l01Of: each returns numOf of the text; the walks of NumOf and Truth. -/
import Derived.Test.YtllamjgloilioaaGreatDoorBytes
import Derived.Test.YtllamjgloilioaaGreatDoorShelf
import Derived.Test.YtllamjgloilioaaGreatDoorNumMath
import Derived.Test.YtllamjgloilioaaGreatDoorNames
import Derived.Test.YtllamjgloilioaaGreatDoorExtract
import Derived.Shelf.Strings.SlTrimAscii
namespace Go.Proofs.YtllamjgloilioaaGreatDoor
open Go.RowKit
set_option linter.unusedVariables false


theorem TrimLeft_any (s cut : ByteArray) (p : UInt8 → Bool) (hcs : cut.size ≤ 16) (hascii : ∀ (j : Nat) b, cut.data.toList[j]? = some b → b.toNat < 128) (hp : ∀ c, cut.data.toList.contains c = p c) (w : World) :
    Calls Tryz.prog 81 #[.string s, .string cut] w fun e w' => ∃ r : ByteArray, e = .returned (.string r) ∧ Hid (r.data.toList = s.data.toList.dropWhile p) ∧ r.size ≤ s.size ∧ Below w.heap.size w w' := by
  refine (Go.Proofs.Any.strings_TrimLeft_laid Tryz.lays161 (by kernel_rfl) s cut w (by omega) hascii).mono fun e w' ⟨he, hb⟩ => ⟨_, he, ?_, ?_, hb⟩
  · show Lib.trimLeftS s.data.toList cut.data.toList = _
    unfold Lib.trimLeftS
    congr 1
    funext c
    exact hp c
  · rw [ba_size, ba_size s]
    show (Lib.trimLeftS s.data.toList cut.data.toList).length ≤ _
    unfold Lib.trimLeftS
    exact (List.dropWhile_suffix _).length_le

theorem digitsOf_any (s : ByteArray) (w : World) (hs : s.size ≤ 1048576) : Calls Tryz.prog 83 #[.string s] w fun e w' => ∃ k : Nat, e = .returned (.int .i64 (k : Int)) ∧ k ≤ s.size ∧ Hid (k = (NM.digs s.data.toList).length) ∧ Below w.heap.size w w' := by
  have HC := Lib.hid (TrimLeft_any s ⟨#[48, 49, 50, 51, 52, 53, 54, 55, 56, 57]⟩ NM.dg (by decide) (fun j b h => by
    have hm : b ∈ [48, 49, 50, 51, 52, 53, 54, 55, 56, 57] := List.mem_of_getElem? h
    clear h; revert b; decide) NM.dg_contains w)
  go_enter Tryz.func83, Tryz.ntmps83
  go_wp2_with fail
  refine HC.out.mono ?_
  rintro e w1 ⟨r, rfl, HR, hrs, hb1⟩
  go_wp2_with fail
  go_ret
  have hk : s.size - r.size = (NM.digs s.data.toList).length := by
    rw [NM.digs_len, ba_size, ba_size r, HR.out]; rfl
  exact ⟨s.size - r.size, ret_int (by omega), by omega, hk, hb1⟩

theorem Count_any (s : ByteArray) (w : World) : Calls Tryz.prog 82 #[.string s, .string ⟨#[45]⟩] w fun e w' => ∃ c : Nat, e = .returned (.int .i64 (c : Int)) ∧ c ≤ s.size ∧ Hid (c = s.data.toList.count 45) ∧ w = w' :=
  (Tryz.strings_Count_one s 45 w).mono fun e w' ⟨he, hw⟩ => ⟨_, he, by rw [ba_size]; exact List.count_le_length, rfl, hw.symm⟩

theorem CutPoint_any (s : ByteArray) (w : World) : Calls Tryz.prog 84 #[.string s, .string ⟨#[46]⟩] w fun e w' => ∃ (r : ByteArray) (b : Bool), e = .returned (.tuple #[.string r, .bool b]) ∧ r.size ≤ s.size ∧
    Hid ((b = true ∧ s.data.toList = 46 :: r.data.toList) ∨ (b = false ∧ s.data.toList.head? ≠ some 46)) ∧ w = w' := by
  refine (Tryz.strings_CutPrefix s ⟨#[46]⟩ w).mono fun e w' ⟨he, hw⟩ => ⟨_, _, he, ?_, ?_, hw.symm⟩
  · rw [ba_size, ba_size s]
    show (Lib.trimPrefix s.data.toList _).length ≤ _
    unfold Lib.trimPrefix; split <;> simp
  · show _ ∨ _
    cases hl : s.data.toList with
    | nil => right; exact ⟨rfl, by simp⟩
    | cons c r =>
      by_cases hc : c = 46
      · subst hc; left; simp [Lib.hasPrefix, Lib.trimPrefix]
      · right
        have : (46 == c) = false := by simp; exact fun h => hc h.symm
        simp only [Lib.hasPrefix, List.head?_cons, ne_eq, Option.some.injEq, hc, not_false_eq_true, and_true, List.isPrefixOf, this, Bool.false_and]

set_option maxHeartbeats 1000000 in
theorem scaled_any (s : ByteArray) (w : World) (hs : s.size ≤ 4194304) (hd : ∀ c ∈ s.data.toList, NM.dg c = true) : Calls Tryz.prog 85 #[.int .i64 0, .string s] w fun e w' => ∃ n : Int, e = .returned (.int .i64 n) ∧ 0 ≤ n ∧ n ≤ 999999999999999999 ∧ Hid (n = NM.scaled 0 s.data.toList) ∧ Below w.heap.size w w' := by
  have hconv := fun W => run_bytes_conv W s
  have HD := Lib.hid hd; clear hd
  go_enter Tryz.func85, Tryz.ntmps85
  go_wp2
  go_loopw [0, 6, 10] (fun n _ i wr => ∃ (k : Nat) (q : Int), k ≤ s.size ∧ i = .int .i64 k ∧ n = .int .i64 q ∧ 0 ≤ q ∧ q ≤ 999999999999999999 ∧ Laid wr w.heap.size s ∧ Below w.heap.size w wr ∧ NM.scaled 0 s.data.toList = NM.scaled q (sfx s k)) (fun _ _ i _ => s.size - (intOf i).toNat)
  case atStart => exact ⟨0, 0, Nat.zero_le _, rfl, rfl, by omega, by omega, (Laid.new w s _).drew, ((Below.refl _ _).alloc (Nat.le_refl _) _).drew, rfl⟩
  case round =>
    obtain ⟨k, q, hk, rfl, rfl, hq0, hq1, hlaid, hbel, hinv⟩ := hrel
    have HI := Lib.hid hinv; clear hinv
    by_cases hlt : k < s.size
    · have HS := Lib.hid (sfx_lt hlt)
      have hcell := hlaid.cell hlt
      have hdg : NM.dg s[k] = true := HD.out _ (by
        have : s[k] = s.data.toList[k]'(by simpa using hlt) := rfl
        rw [this]; exact List.getElem_mem _)
      have hdv := NM.dv_le hdg
      have h48 : 48 ≤ s[k].toNat ∧ s[k].toNat ≤ 57 := by simpa [NM.dg] using hdg
      have HV : Hid ((NM.dv s[k] : Int) = (s[k].toNat : Int) - 48) := by show (NM.dv s[k] : Int) = _; unfold NM.dv; omega
      clear hdg
      obtain ⟨d, hd, hd0, hd1⟩ : ∃ d : Int, (s[k].toNat : Int) - 48 = d ∧ 0 ≤ d ∧ d ≤ 9 := ⟨_, rfl, by omega, by omega⟩
      rw [hd] at HV
      by_cases hc : (999999999999999999 - d) / 10 < q
      · go_wp2
        go_ret
        refine ⟨_, rfl, by omega, by omega, ?_, hbel⟩
        show _ = _
        rw [HI.out, HS.out, NM.scaled, HV.out, if_pos hc]
      · go_wp2
        refine ⟨⟨k + 1, _, by omega, by go_num, rfl, by omega, by omega, hlaid, hbel, ?_⟩, by simp [intOf]; omega⟩
        rw [HI.out, HS.out, NM.scaled, HV.out, if_neg hc]
    · go_wp2
      go_ret
      exact ⟨q, rfl, hq0, hq1, by rw [HI.out, sfx_ge (s := s) (by omega)]; rfl, hbel⟩

theorem num_arg (r F : ByteArray) (k : Nat) (HK : Hid (k = (NM.digs r.data.toList).length)) (hk : k ≤ r.size) (hF : F.size ≤ 1048576) (hr : r.size ≤ 1048576) (HF : Hid (∀ c ∈ F.data.toList, NM.dg c = true)) :
    ∃ A : ByteArray, r.extract 0 k ++ (F ++ ⟨#[48, 48, 48, 48, 48, 48]⟩).extract 0 6 = A ∧ A.size ≤ 4194304 ∧ A.data.toList = NM.digs r.data.toList ++ (F.data.toList ++ List.replicate 6 48).take 6 ∧ ∀ c ∈ A.data.toList, NM.dg c = true := by
  have e : (r.extract 0 k ++ (F ++ ⟨#[48, 48, 48, 48, 48, 48]⟩).extract 0 6).data.toList = NM.digs r.data.toList ++ (F.data.toList ++ List.replicate 6 48).take 6 := by
    have e1 : r.data.toList.take k = NM.digs r.data.toList := by rw [HK.out]; exact NM.take_digs _
    rw [← e1]
    have e2 : List.take (6 - F.size) [48, 48, 48, 48, 48, 48] = List.take (6 - F.data.toList.length) (List.replicate 6 (48 : UInt8)) := by rw [ba_size]; rfl
    rw [List.take_append, ← e2]
    simp [List.extract_eq_take_drop]
  refine ⟨_, rfl, ?_, e, ?_⟩
  · rw [ByteArray.size_append, ByteArray.size_extract, ByteArray.size_extract]; omega
  · rw [e]
    intro c hc
    rw [List.mem_append] at hc
    rcases hc with hc | hc
    · exact NM.digs_all _ c hc
    · have := List.mem_of_mem_take hc
      rw [List.mem_append] at this
      rcases this with h | h
      · exact HF.out c h
      · rw [List.eq_of_mem_replicate h]; decide

theorem num_neg (s r : ByteArray) (HR : Hid (r.data.toList = s.data.toList.dropWhile NM.sgn)) (c : Nat) (HC : Hid (c = (s.extract 0 (s.size - r.size)).data.toList.count 45)) : ((c : Int) % 2 == 1) = NM.neg s.data.toList := by
  have e : (s.extract 0 (s.size - r.size)).data.toList = s.data.toList.takeWhile NM.sgn := by
    rw [← NM.take_while_eq NM.sgn s.data.toList, ← HR.out, ← ba_size, ← ba_size]
    simp [List.extract_eq_take_drop]
  rw [NM.neg_count, ← e, ← HC.out, Bool.eq_iff_iff]
  simp; omega

theorem num_rest (r : ByteArray) (k : Nat) (HK : Hid (k = (NM.digs r.data.toList).length)) : (r.extract k r.size).data.toList = NM.afterDigs r.data.toList := by
  rw [← NM.drop_digs, ← HK.out]
  simp [List.extract_eq_take_drop]
  exact List.take_of_length_le (by rw [List.length_drop, ← ba_size]; omega)

set_option maxHeartbeats 1000000 in
theorem NumOf_any (s : ByteArray) (w : World) (hs : s.size ≤ 1048576) : Calls Tryz.prog 76 #[.string s] w fun e w' => ∃ n : Int, e = .returned (.int .i64 n) ∧ Hid (n = NM.numOf s.data.toList) ∧ Below w.heap.size w w' := by
  have HT := Lib.hid (TrimLeft_any s ⟨#[43, 45]⟩ NM.sgn (by decide) (fun j b h => by
    have hm : b ∈ [43, 45] := List.mem_of_getElem? h
    clear h; revert b; decide) NM.sgn_contains w)
  go_enter Tryz.func76, Tryz.ntmps76
  go_wp2_with fail
  refine HT.out.mono ?_
  rintro e w1 ⟨r, rfl, HR, hrs, hb1⟩
  go_wp2_with fail
  refine (Count_any _ _).mono ?_
  rintro e w2 ⟨c, rfl, hcs, HC, rfl⟩
  go_wp2_with fail
  refine (digitsOf_any _ _ (by omega)).mono ?_
  rintro e w3 ⟨k, rfl, hks, HK, hb2⟩
  go_wp2_with fail
  refine (CutPoint_any _ _).mono ?_
  rintro e w4 ⟨fr, b, rfl, hfs, HF, rfl⟩
  have hfs' : fr.size ≤ s.size := by simp at hfs; omega
  have HN := Lib.hid (num_neg s r HR c HC)
  have hr : r.size ≤ 1048576 := by omega
  have HR2 := Lib.hid (num_rest r k HK)
  have hfin : ∀ (F : ByteArray), F.data.toList = (match NM.afterDigs r.data.toList with | c :: r => if c = 46 then NM.digs r else [] | [] => []) → ∀ A : ByteArray, A.data.toList = NM.digs r.data.toList ++ (F.data.toList ++ List.replicate 6 48).take 6 → NM.scaled 0 A.data.toList = NM.mag (NM.afterSign s.data.toList) := by
    intro F hF A hA
    rw [hA, NM.prog_mag _ _ hF, HR.out]; rfl
  have HE := Lib.hid hfin; clear hfin
  have hneg : ∀ n : Int, n = NM.mag (NM.afterSign s.data.toList) → (NM.neg s.data.toList = true → -n = NM.numOf s.data.toList) ∧ (NM.neg s.data.toList = false → n = NM.numOf s.data.toList) := by
    rintro n rfl; constructor <;> intro h <;> unfold NM.numOf <;> rw [h] <;> rfl
  have HG := Lib.hid hneg; clear hneg
  cases b
  · obtain ⟨A, hA, hAs, hAl, hAd⟩ := num_arg r ⟨#[]⟩ k HK hks (by decide) hr (by intro c hc; cases hc)
    have HA := Lib.hid hAl; have HD := Lib.hid hAd; clear hAl hAd
    go_wp2_with fail
    refine (scaled_any A _ hAs HD.out).mono ?_
    rintro e w5 ⟨n, rfl, hn0, hn1, HS, hb3⟩
    have HM := Lib.hid (HG.out n (HS.out.trans (HE.out ⟨#[]⟩ (by
      have := HF.out
      rw [HR2.out] at this
      rcases this with ⟨h, _⟩ | ⟨_, h⟩
      · cases h
      · cases ha : NM.afterDigs r.data.toList with
        | nil => rfl
        | cons c l => rw [ha] at h; simp at h; simp [h]) A HA.out)))
    cases hng : NM.neg s.data.toList
    · rw [hng] at HN
      have hN := HN.out
      go_wp2_with fail
      go_ret
      exact ⟨n, rfl, HM.out.2 hng, below_trans (below_trans hb1 hb2) hb3⟩
    · rw [hng] at HN
      have hN := HN.out
      go_wp2_with fail
      go_ret
      exact ⟨-n, rfl, HM.out.1 hng, below_trans (below_trans hb1 hb2) hb3⟩
  · go_wp2_with fail
    refine (digitsOf_any _ _ (by omega)).mono ?_
    rintro e w5 ⟨j, rfl, hjs, HJ, hb3⟩
    have hj : (fr.extract 0 j).data.toList = NM.digs fr.data.toList := by
      rw [← NM.take_digs, ← HJ.out]
      simp [List.extract_eq_take_drop]
    have HJ2 := Lib.hid hj; clear hj
    obtain ⟨A, hA, hAs, hAl, hAd⟩ := num_arg r (fr.extract 0 j) k HK hks (by simp; omega) hr (by show ∀ c ∈ _, _; rw [HJ2.out]; exact NM.digs_all _)
    have HA := Lib.hid hAl; have HD := Lib.hid hAd; clear hAl hAd
    go_wp2_with fail
    refine (scaled_any A _ hAs HD.out).mono ?_
    rintro e w6 ⟨n, rfl, hn0, hn1, HS, hb4⟩
    have HM := Lib.hid (HG.out n (HS.out.trans (HE.out (fr.extract 0 j) (by
      have := HF.out
      rw [HR2.out] at this
      rcases this with ⟨_, h⟩ | ⟨h, _⟩
      · rw [h, HJ2.out]; simp
      · cases h) A HA.out)))
    cases hng : NM.neg s.data.toList
    · rw [hng] at HN
      have hN := HN.out
      go_wp2_with fail
      go_ret
      exact ⟨n, rfl, HM.out.2 hng, below_trans (below_trans (below_trans hb1 hb2) hb3) hb4⟩
    · rw [hng] at HN
      have hN := HN.out
      go_wp2_with fail
      go_ret
      exact ⟨-n, rfl, HM.out.1 hng, below_trans (below_trans (below_trans hb1 hb2) hb3) hb4⟩

end Go.Proofs.YtllamjgloilioaaGreatDoor
