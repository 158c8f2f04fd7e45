/- The law file's own marks: markText, markStringS, heldStringS. -/
import Derived.Test.YtllamjgloilioaaGreatDoorNumText
import Derived.Test.YtllamjgloilioaaGreatDoorStrs
import Derived.Test.YtllamjgloilioaaGreatDoorSubsL
namespace Go.Proofs.YtllamjgloilioaaGreatDoor
open Go.RowKit
set_option linter.unusedVariables false

/-- The mark of a number. -/
def mtB (k : Nat) : ByteArray := ⟨(109 :: NT.dd k).toArray⟩

theorem mtB_list (k : Nat) : (mtB k).data.toList = 109 :: NT.dd k := by simp [mtB]

set_option maxRecDepth 8000 in
theorem markText_any (k : Nat) (hk0 : 1 ≤ k) (hk : (k : Int) ≤ 100000000) (w : World) : Calls Tryz.prog 26 #[.int .i64 k] w fun e w' => e = .returned (.string (mtB k)) ∧ Below w.heap.size w w' := by
  have HK := Lib.hid (NT.dd_len 9 k (by have : (10 : Nat) ^ 9 = 1000000000 := rfl; omega))
  go_enter Tryz.func26, Tryz.ntmps26
  go_wp2_with fail
  go_loopw [0, 3] (fun i t wr => ∃ (n : Nat) (T : ByteArray), (n : Int) ≤ 100000000 ∧ i = .int .i64 n ∧ t = .string T ∧ T.size ≤ 9 ∧ Hid (NT.dd k = NT.dd n ++ T.data.toList) ∧ Below w.heap.size w wr) (fun i _ _ => (intOf i).toNat)
  case atStart => exact ⟨k, ⟨#[]⟩, hk, rfl, rfl, by decide, by show _ = _; simp, below_refl _⟩
  case round =>
    obtain ⟨n, T, hn, rfl, rfl, hT, HI, hbel⟩ := hrel
    have hbs := hbel.size
    by_cases h0 : n = 0
    · subst h0
      go_wp2_with fail
      go_ret
      refine ⟨ret_str (ba_ext ?_), hbel⟩
      rw [ba_app, mtB_list, HI.out, NT.dd_zero]; rfl
    · have hn0 : (0 : Int) < n := by omega
      obtain ⟨m, hm⟩ : ∃ m, n / 10 = m := ⟨_, rfl⟩
      obtain ⟨c, hc⟩ : ∃ c, UInt8.ofNat (48 + n % 10) = c := ⟨_, rfl⟩
      have hcn := digit_nat n
      rw [hc] at hcn
      have hc256 : c.toNat < 256 := UInt8.toNat_lt c
      have HS := Lib.hid (NT.dd_step h0)
      rw [hm, hc] at HS
      have hcv := fun W => one_byte c W
      have hmi : (n : Int) / 10 = m := by omega
      have hci : 48 + (n : Int) % 10 = c.toNat := hcn.symm
      have hsz : T.size + 1 ≤ 9 := by
        have := HK.out
        rw [HI.out, HS.out] at this
        simp at this
        omega
      clear hc hcn
      go_wp2_with fail
      refine ⟨⟨m, _, by omega, rfl, rfl, ?_, ?_, hbel.alloc hbs _⟩, by simp [intOf]; omega⟩
      · rw [ByteArray.size_append]
        show 1 + T.size ≤ 9
        omega
      · show _ = _
        rw [HI.out, HS.out, ba_app]; simp

theorem ownsRow_formsS {w : World} {base size n : Nat} {e : TypeId} {v : Value} {xs : List Value} (h : w.ownsRow base e size v n xs) : (v = .slice none 0 0 ∧ n = 0) ∨ ∃ g cap, v = .slice (some ⟨g, 0, none⟩) n cap := by
  rcases h.2 with h | ⟨g, cap, cur, hv, _⟩
  · exact .inl h
  · exact .inr ⟨g, cap, hv⟩

theorem set_mid (A B : List ByteArray) (x M : ByteArray) (j : Nat) (h : A.length = j) : (A ++ x :: B).set j M = A ++ [M] ++ B := by
  subst h; simp

theorem strVs_set (L : List ByteArray) (j : Nat) (M : ByteArray) : (strVs L).set j (.string M) = strVs (L.set j M) := by
  unfold strVs; rw [List.map_set]

set_option maxRecDepth 8000 in
theorem markStringS_any (v : Value) (xs : List ByteArray) (k : Nat) (hk0 : 1 ≤ k) (hk : (k : Int) ≤ 1000000) (w : World) (base : Nat) (h : Strs w base v xs) (hl : (xs.length : Int) ≤ 1048576) (hbw : base ≤ w.heap.size) :
    Calls Tryz.prog 13 #[v, .int .i64 k] w fun e w' => e = .returned (.int .i64 (k + xs.length)) ∧ Strs w' base v ((List.range xs.length).map fun i => mtB (k + i)) ∧ Below base w w' := by
  rcases ownsRow_formsS h with ⟨rfl, hn⟩ | ⟨g, cap, rfl⟩
  · have hx : xs = [] := List.eq_nil_of_length_eq_zero hn
    subst hx
    go_enter Tryz.func13, Tryz.ntmps13
    go_wp2_with fail
    go_loopw [1, 5] (fun q i wr => q = .int .i64 k ∧ i = .int .i64 0 ∧ wr = w) (fun _ _ _ => 0)
    case atStart => exact ⟨rfl, rfl, rfl⟩
    case round =>
      obtain ⟨rfl, rfl, rfl⟩ := hrel
      go_wp2_with fail
      go_ret
      exact ⟨rfl, h, Below.refl _ _⟩
  · have hgb : base ≤ g := (World.ownsRow.lt h g rfl).1
    go_enter Tryz.func13, Tryz.ntmps13
    go_wp2_with fail
    go_loopw [1, 5] (fun q i wr => ∃ j : Nat, j ≤ xs.length ∧ i = .int .i64 j ∧ q = .int .i64 (k + j) ∧ Hid (Strs wr base (.slice (some ⟨g, 0, none⟩) xs.length cap) ((List.range j).map (fun i => mtB (k + i)) ++ xs.drop j)) ∧ Below base w wr) (fun _ i _ => xs.length - (intOf i).toNat)
    case atStart => exact ⟨0, Nat.zero_le _, rfl, by go_num, by show Strs _ _ _ _; simpa using h, Below.refl _ _⟩
    case round =>
      obtain ⟨j, hj, rfl, rfl, HS, hbel⟩ := hrel
      have hbs := hbel.size
      by_cases hlt : j < xs.length
      · have hln : ((List.range j).map (fun i => mtB (k + i)) ++ xs.drop j).length = xs.length := by simp; omega
        go_wp2_with fail
        have ekj : ((k : Int) + j) = ((k + j : Nat) : Int) := by omega
        rw [ekj]
        refine (markText_any (k + j) (by omega) (by omega) _).mono ?_
        rintro e w2 ⟨rfl, hb2⟩
        have hb2s := hb2.size
        have S2 : Strs w2 base (.slice (some ⟨g, 0, none⟩) xs.length cap) ((List.range j).map (fun i => mtB (k + i)) ++ xs.drop j) := HS.out.below hb2
        have S3 := S2
        unfold Strs at S3
        rw [hln] at S3
        have hfz := S3.frozenAt j
        have hcell : ∃ y, w2.cell? ⟨g, j, none⟩ = some (.string y) := by
          have := S3.cellAt j (by omega)
          rw [this, strVs, List.getElem?_map, List.getElem?_eq_getElem (by omega)]
          exact ⟨_, rfl⟩
        obtain ⟨y, hcell⟩ := hcell
        obtain ⟨M, HM⟩ : ∃ M, Hid (mtB (k + j) = M) := ⟨_, rfl⟩
        rw [HM.out]
        obtain ⟨hst, hgr⟩ := S3.stored j (.string M)
        have HST := Lib.hid hst
        have hbl : Below base w2 (w2.setCell ⟨g, j, none⟩ (.string M)) := (Below.refl base w2).setCell (p := ⟨g, j, none⟩) hgb _
        have HBL := Lib.hid hbl
        have HLN := Lib.hid hln
        clear hst hgr S3 S2 HS hln hbl
        have i0 : (0 : Int) ≤ j := by omega
        have i1 : (j : Int) < xs.length := by omega
        have i2 : ((k + j : Nat) : Int) + 1 ≤ 3000000 := by omega
        have i3 : 0 ≤ ((k + j : Nat) : Int) := by omega
        obtain ⟨kj, hkj⟩ : ∃ kj : Int, ((k + j : Nat) : Int) = kj := ⟨_, rfl⟩
        rw [hkj] at i2 i3 ⊢
        have HKJ := Lib.hid hkj; clear hkj
        have HSL : Hid ((strVs ((List.range j).map (fun i => mtB (k + i)) ++ xs.drop j)).set j (.string M) = strVs ((List.range (j + 1)).map (fun i => mtB (k + i)) ++ xs.drop (j + 1))) := by
          show _ = _
          rw [List.drop_eq_getElem_cons hlt, strVs_set, set_mid _ _ _ _ j (by simp), List.range_succ, List.map_append, List.map_cons, List.map_nil, HM.out]
        go_wp2_with fail
        refine ⟨⟨j + 1, by omega, by go_num, ?_, ?_, hbel.trans ((hb2.mono (show base ≤ wr.heap.size by omega)).trans HBL.out)⟩, by simp [intOf]; omega⟩
        · have := HKJ.out; congr 1; omega
        · show Strs _ _ _ _
          have h1 := HST.out
          rw [HSL.out] at h1
          unfold Strs
          have e : ((List.range (j + 1)).map (fun i => mtB (k + i)) ++ xs.drop (j + 1)).length = xs.length := by simp; omega
          rw [e]
          exact h1
      · obtain rfl : j = xs.length := by omega
        go_wp2_with fail
        go_ret
        refine ⟨rfl, ?_, hbel⟩
        have := HS.out
        rw [List.drop_length, List.append_nil] at this
        exact this

set_option maxRecDepth 8000 in
theorem heldStringS_any (v : Value) (n k : Nat) (hk0 : 1 ≤ k) (hk : (k : Int) ≤ 1000000) (w : World) (base : Nat) (h : Strs w base v ((List.range n).map fun i => mtB (k + i))) (hl : (n : Int) ≤ 1048576) :
    Calls Tryz.prog 45 #[v, .int .i64 k] w fun e w' => e = .returned (.int .i64 (k + n)) ∧ Below w.heap.size w w' := by
  obtain ⟨A, c, rfl, hc, hr⟩ := h.at_
  clear h
  rw [show ((List.range n).map fun i => mtB (k + i)).length = n by simp] at *
  go_enter Tryz.func45, Tryz.ntmps45
  go_wp2_with fail
  go_loopw [1, 5] (fun q i wr => ∃ j : Nat, j ≤ n ∧ i = .int .i64 j ∧ q = .int .i64 (k + j) ∧ Below w.heap.size w wr) (fun _ i _ => n - (intOf i).toNat)
  case atStart => exact ⟨0, Nat.zero_le _, rfl, by go_num, below_refl _⟩
  case round =>
    obtain ⟨j, hj, rfl, rfl, hbel⟩ := hrel
    have hbs := hbel.size
    by_cases hlt : j < n
    · have hget : ∀ w', Below w.heap.size w w' → ∃ ad, A = some ad ∧ w'.cell? (ad.add j) = some (.string (mtB (k + j))) := fun w' hb' => by
        obtain ⟨ad, u, e, _, hx, hcl⟩ := (hr.below hb').at_ hlt
        refine ⟨ad, e, ?_⟩
        rw [hcl]
        simp [strVs, List.getElem?_map, List.getElem?_range hlt] at hx
        rw [← hx]
      obtain ⟨ad, rfl, hcell⟩ := hget _ hbel
      have HG : Hid (∀ w', Below w.heap.size w w' → w'.cell? (ad.add j) = some (.string (mtB (k + j)))) := fun w' hb' => by
        obtain ⟨ad', e, hc'⟩ := hget _ hb'
        injection e with e; subst e; exact hc'
      clear hget
      have i0 : (0 : Int) ≤ j := by omega
      have i1 : (j : Int) < n := by omega
      have i2 : ((k + j : Nat) : Int) + 1 ≤ 3000000 := by omega
      have i3 : 1 ≤ k + j := by omega
      have i4 : 0 ≤ ((k + j : Nat) : Int) := by omega
      have ekj : ((k : Int) + j) = ((k + j : Nat) : Int) := by omega
      rw [ekj]
      have HMT := Lib.hid (fun W => markText_any (k + j) i3 (by omega) W)
      generalize mtB (k + j) = M at *
      obtain ⟨kj, hkj⟩ : ∃ kj : Int, ((k + j : Nat) : Int) = kj := ⟨_, rfl⟩
      rw [hkj] at i2 i4 HMT ⊢
      have HKJ := Lib.hid hkj; clear hkj ekj
      go_wp2_with fail
      go_region_with (go_at_call 26; refine (HMT.out _).mono ?_; rintro e w2 ⟨rfl, hb2⟩; have hb3 : Below w.heap.size w w2 := below_trans hbel ⟨hb2.os, hb2.tape, hb2.output, hb2.size, hb2.block⟩; have hc3 := HG.out _ hb3; clear hb2)
      all_goals
        go_wp2_with fail
        refine ⟨⟨j + 1, by omega, by go_num, ?_, hb3⟩, by simp [intOf]; omega⟩
        show Value.int .i64 (kj + 1) = Value.int .i64 ((k : Int) + ((j + 1 : Nat) : Int))
        rw [show kj + 1 = (k : Int) + ((j + 1 : Nat) : Int) by have := HKJ.out; omega]
    · obtain rfl : j = n := by omega
      go_wp2_with fail
      go_ret
      exact ⟨rfl, hbel⟩

end Go.Proofs.YtllamjgloilioaaGreatDoor
