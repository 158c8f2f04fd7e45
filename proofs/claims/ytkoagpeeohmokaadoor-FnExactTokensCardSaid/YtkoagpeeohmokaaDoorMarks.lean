/- The law file's own marks: markText, markStringS, heldStringS. -/
import Derived.Test.YtkoagpeeohmokaaDoorNumText
import Derived.Test.YtkoagpeeohmokaaDoorStrs
import Derived.Test.YtkoagpeeohmokaaDoorSubsL
namespace Go.Proofs.YtkoagpeeohmokaaDoor
open Go.RowKit
set_option linter.unusedVariables false

/-- The mark of a number. -/
def mtB (k : Nat) : ByteArray := ⟨(109 :: NT.dd k).toArray⟩

theorem mtB_list (k : Nat) : (mtB k).data.toList = 109 :: NT.dd k := by simp [mtB]

set_option maxRecDepth 8000 in
theorem markText_any (k : Nat) (hk0 : 1 ≤ k) (hk : (k : Int) ≤ 100000000) (w : World) : Calls Tryd.prog 22 #[.int .i64 k] w fun e w' => e = .returned (.string (mtB k)) ∧ Below w.heap.size w w' := by
  have HK := Lib.hid (NT.dd_len 9 k (by have : (10 : Nat) ^ 9 = 1000000000 := rfl; omega))
  go_enter Tryd.func22, Tryd.ntmps22
  go_wp2_with fail
  go_loopw [0, 3] (fun i t wr => ∃ (n : Nat) (T : ByteArray), (n : Int) ≤ 100000000 ∧ i = .int .i64 n ∧ t = .string T ∧ T.size ≤ 9 ∧ Hid (NT.dd k = NT.dd n ++ T.data.toList) ∧ Below w.heap.size w wr) (fun i _ _ => (intOf i).toNat)
  case atStart => exact ⟨k, ⟨#[]⟩, hk, rfl, rfl, by decide, by show _ = _; simp, below_refl _⟩
  case round =>
    obtain ⟨n, T, hn, rfl, rfl, hT, HI, hbel⟩ := hrel
    have hbs := hbel.size
    by_cases h0 : n = 0
    · subst h0
      go_wp2_with fail
      go_ret
      refine ⟨ret_str (ba_ext ?_), hbel⟩
      rw [ba_app, mtB_list, HI.out, NT.dd_zero]; rfl
    · have hn0 : (0 : Int) < n := by omega
      obtain ⟨m, hm⟩ : ∃ m, n / 10 = m := ⟨_, rfl⟩
      obtain ⟨c, hc⟩ : ∃ c, UInt8.ofNat (48 + n % 10) = c := ⟨_, rfl⟩
      have hcn := digit_nat n
      rw [hc] at hcn
      have hc256 : c.toNat < 256 := UInt8.toNat_lt c
      have HS := Lib.hid (NT.dd_step h0)
      rw [hm, hc] at HS
      have hcv := fun W => one_byte c W
      have hmi : (n : Int) / 10 = m := by omega
      have hci : 48 + (n : Int) % 10 = c.toNat := hcn.symm
      have hsz : T.size + 1 ≤ 9 := by
        have := HK.out
        rw [HI.out, HS.out] at this
        simp at this
        omega
      clear hc hcn
      go_wp2_with fail
      refine ⟨⟨m, _, by omega, rfl, rfl, ?_, ?_, hbel.alloc hbs _⟩, by simp [intOf]; omega⟩
      · rw [ByteArray.size_append]
        show 1 + T.size ≤ 9
        omega
      · show _ = _
        rw [HI.out, HS.out, ba_app]; simp

theorem ownsRow_formsS {w : World} {base size n : Nat} {e : TypeId} {v : Value} {xs : List Value} (h : w.ownsRow base e size v n xs) : (v = .slice none 0 0 ∧ n = 0) ∨ ∃ g cap, v = .slice (some ⟨g, 0, none⟩) n cap := by
  rcases h.2 with h | ⟨g, cap, cur, hv, _⟩
  · exact .inl h
  · exact .inr ⟨g, cap, hv⟩

theorem set_mid (A B : List ByteArray) (x M : ByteArray) (j : Nat) (h : A.length = j) : (A ++ x :: B).set j M = A ++ [M] ++ B := by
  subst h; simp

theorem strVs_set (L : List ByteArray) (j : Nat) (M : ByteArray) : (strVs L).set j (.string M) = strVs (L.set j M) := by
  unfold strVs; rw [List.map_set]

end Go.Proofs.YtkoagpeeohmokaaDoor
