/- GetSubs: impl.getNumber, impl.getString, spec.l02Num, spec.l02Take; both sides and the walk. -/
import Derived.Test.YtjedmpkjopgklaaGreatDoorKeyOf
import Derived.Test.YtjedmpkjopgklaaGreatDoorAppendStr
namespace Go.Proofs.YtjedmpkjopgklaaGreatDoor
open Go.RowKit
set_option linter.unusedVariables false

/-- The number of the first j bytes. -/
def accN (l : List UInt8) : Nat → Int
  | 0 => 0
  | j + 1 => accN l j * 256 + ((l[j]?).getD 0).toNat

theorem accN_bd (l : List UInt8) : ∀ j, 0 ≤ accN l j ∧ accN l j < 256 ^ j
  | 0 => by simp [accN]
  | j + 1 => by
    have := accN_bd l j
    have h := ((l[j]?).getD 0).toNat_lt
    have e : (256 : Int) ^ (j + 1) = 256 ^ j * 256 := by rw [Int.pow_succ]
    rw [accN, e]; omega

theorem accN_8 (l : List UInt8) (j : Nat) (hj : j ≤ 8) : 0 ≤ accN l j ∧ accN l j ≤ 18446744073709551615 := by
  have h := accN_bd l j
  have h2 : (256 : Int) ^ j ≤ 18446744073709551616 := by
    match j, hj with
    | 0, _ => decide
    | 1, _ => decide
    | 2, _ => decide
    | 3, _ => decide
    | 4, _ => decide
    | 5, _ => decide
    | 6, _ => decide
    | 7, _ => decide
    | 8, _ => decide
    | n + 9, h => omega
  omega

theorem accN_7 (l : List UInt8) (j : Nat) (hj : j ≤ 7) : 0 ≤ accN l j ∧ accN l j ≤ 72057594037927935 := by
  have h := accN_bd l j
  have h2 : (256 : Int) ^ j ≤ 72057594037927936 := by
    match j, hj with
    | 0, _ => decide
    | 1, _ => decide
    | 2, _ => decide
    | 3, _ => decide
    | 4, _ => decide
    | 5, _ => decide
    | 6, _ => decide
    | 7, _ => decide
    | n + 8, h => omega
  omega

/-- What a read of an encoded number gives. -/
def NumRead (l : List UInt8) (b : Bool) (r t : List UInt8) : Prop :=
  (b = true ∧ 8 ≤ l.length ∧ accN l 8 ≤ 2000000000000000000 ∧ r = numTextB (accN l 8 - 1000000000000000000) ∧ t = l.drop 8) ∨ (b = false ∧ (l.length < 8 ∨ 2000000000000000000 < accN l 8))

/-- What getNumber hands back. (A plain '∃ b : Bool' is torn open by the walk.) -/
def NumGot (s : ByteArray) (e : Ending) : Prop := ∃ (r t : ByteArray) (b : Bool), e = .returned (.tuple #[.string r, .string t, .bool b]) ∧ NumRead s.data.toList b r.data.toList t.data.toList ∧ r.size ≤ 64 ∧ t.size ≤ s.size

set_option maxHeartbeats 400000 in
set_option maxRecDepth 8000 in
theorem getNumber_any (s : ByteArray) (w : World) (hT : T10 w) (hs : s.size ≤ 1048576) :
    Calls Tryz.prog 200 #[.string s] w fun e w' => NumGot s e ∧ Below w.heap.size w w' := by
  have HT := Lib.hid hT; clear hT
  have hls : s.data.toList.length = s.size := (ba_size s).symm
  have HLS := Lib.hid hls; clear hls
  by_cases h8 : s.size < 8
  · go_enter Tryz.func200, Tryz.ntmps200
    go_wp2_with fail
    go_ret3
    exact ⟨⟨_, _, _, rfl, .inr ⟨rfl, .inl (by rw [HLS.out]; exact h8)⟩, by decide, Nat.zero_le _⟩, below_refl _⟩
  · go_enter Tryz.func200, Tryz.ntmps200
    go_wp2_with fail
    go_loop [5, 10] (fun n i => ∃ (j : Nat) (N : Int), j ≤ 8 ∧ i = .int .i64 j ∧ n = .int .u64 N ∧ Hid (N = accN s.data.toList j)) (fun _ i => 8 - (intOf i).toNat)
    case atStart => exact ⟨0, 0, by omega, rfl, rfl, rfl⟩
    case round =>
      obtain ⟨j, N, hj, rfl, rfl, HN⟩ := hrel
      by_cases hlt : j < 8
      · obtain ⟨n0, n1⟩ := accN_7 s.data.toList j (by omega)
        rw [← HN.out] at n0 n1
        have hjs : j < s.size := by omega
        have HB : Hid (((s.data.toList[j]?).getD 0) = s[j]) := by
          show _ = _
          rw [List.getElem?_eq_getElem (by rw [HLS.out]; exact hjs)]; rfl
        have hb256 : s[j].toNat < 256 := UInt8.toNat_lt _
        have wb : IntKind.u64.wrap (s[j].toNat : Int) = s[j].toNat := IntWalk.u64_in _ (by omega)
        have ws : IntKind.u64.wrap (N * 256 + (s[j].toNat : Int)) = N * 256 + s[j].toNat := IntWalk.u64_in _ (by omega)
        go_wp2_with fail
        refine ⟨⟨j + 1, N * 256 + s[j].toNat, by omega, by go_num, by first | rfl | rw [wb, ws], ?_⟩, by simp [intOf]; omega⟩
        show _ = _
        rw [accN, HN.out, HB.out]
      · obtain rfl : j = 8 := by omega
        obtain ⟨n0, n1⟩ := accN_8 s.data.toList 8 (by omega)
        rw [← HN.out] at n0 n1
        by_cases hbig : 2000000000000000000 < N
        · go_wp2_with fail
          go_ret3
          exact ⟨⟨⟨#[]⟩, ⟨#[]⟩, false, rfl, .inr ⟨rfl, .inr (by rw [← HN.out]; exact hbig)⟩, by decide, Nat.zero_le _⟩, below_refl _⟩
        · have hN2 : N ≤ 2000000000000000000 := by omega
          go_wp2_with fail
          have HTd : Hid (T10 w.drew) := HT.out
          have wc : IntKind.i64.wrap N = N := IntWalk.i64_in _ (by omega)
          have WD : Hid (IntKind.i64.wrap (N - 1000000000000000000) = N - 1000000000000000000) := IntWalk.i64_in _ (by omega)
          have HNT := Lib.hid (NumText_any (IntKind.i64.wrap (N - 1000000000000000000)) w.drew HTd.out)
          have h8s : (8 : Int) ≤ s.size := by omega
          go_region_with (first | (go_at_call 102; refine HNT.out.mono ?_; rintro e w2 ⟨r, rfl, hr, HL, hb2⟩))
          all_goals
            go_wp2_with fail
            go_ret3
            refine ⟨⟨r, s.extract 8 s.size, true, rfl, .inl ⟨rfl, by rw [HLS.out]; omega, by rw [← HN.out]; exact hN2, ?_, ?_⟩, hr, by rw [ByteArray.size_extract]; omega⟩, ⟨hb2.os, hb2.tape, hb2.output, hb2.size, hb2.block⟩⟩
            · rw [← HN.out, ← WD.out]; exact HL.out
            · simp only [ByteArray.data_extract, Array.toList_extract, List.extract_eq_take_drop]
              exact List.take_of_length_le (by rw [List.length_drop, HLS.out]; omega)

end Go.Proofs.YtjedmpkjopgklaaGreatDoor
