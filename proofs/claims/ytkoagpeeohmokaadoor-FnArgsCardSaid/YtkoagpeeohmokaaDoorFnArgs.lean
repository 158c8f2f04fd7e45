/- The law FnArgs: an argument that is a slice of bytes, opened; the walk. -/
import Derived.Test.YtkoagpeeohmokaaDoorFunLaw
import Derived.ChangeSlices
namespace Go.Proofs.YtkoagpeeohmokaaDoor
open Go.RowKit Go.ChangeShapes Go.WideShapes Go.ChangeAt
set_option linter.unusedVariables false

theorem cells_u8 : Tryd.prog.cellsOf 5 = 1 := by kernel_rfl

/-- The slice value v holds n bytes. -/
def ByteRow (w : World) (v : Value) (n : Nat) : Prop := ∃ A c, v = .slice A n c ∧ (0 < n → ∃ ad, A = some ad ∧ ad.block < w.heap.size ∧ ∀ k, k < n → ∃ b : UInt8, w.cell? (ad.add k) = some (.int .u8 (b.toNat : Int)))

set_option maxRecDepth 20000 in
theorem open_bytesV {H : Type} {enc : TypeId × Value → H} {W : World} {base : Nat} {v : Value} {d : DataW H} {p : List MemPlace} (hk : Value.okWide Tryd.prog W .any base 35 v)
    (h : DataW.Trod enc Tryd.prog W 0 (fun _ => true) true 35 v d p) : ∃ n, ByteRow W v n ∧ n ≤ maxLen := by
  obtain ⟨a0, len, cap, rfl⟩ := okWide_slice Tryd.underlying35 hk
  obtain ⟨fuel, hf⟩ := h
  rcases open_ints Tryd.underlying35 Tryd.underlying5 cells_u8 hf with ⟨hcs, hx⟩ | ⟨a, len', cap', ss, hcs, _, hl, hm, hz, hx, hcell, hws⟩
  · simp [Value.cells] at hcs
    obtain ⟨rfl, rfl, rfl⟩ := hcs
    exact ⟨0, ⟨none, 0, rfl, fun h => absurd h (by omega)⟩, by unfold maxLen; simp⟩
  · simp [Value.cells] at hcs
    obtain ⟨rfl, rfl, rfl⟩ := hcs
    refine ⟨len, ⟨some a, cap, rfl, fun hn => ⟨a, rfl, ?_, fun k hk => ?_⟩⟩, by omega⟩
    · have := lt_of_cell (hcell 0 (by simp at hz; omega))
      rwa [block_of_add] at this
    · have hkz : k < ss.length := by simp at hz; omega
      have hm2 : ss.getD k 0 ∈ ss := by rw [List.getD, List.getElem?_eq_getElem hkz]; exact List.getElem_mem hkz
      have hw := hws _ hm2
      have hc := hcell k hkz
      generalize ss.getD k 0 = z at *
      have hb : 0 ≤ z ∧ z ≤ 255 := by
        rw [Lit.wf, Bool.and_eq_true] at hw
        have a := of_decide_eq_true hw.1
        have b := of_decide_eq_true hw.2
        have e1 : IntKind.u8.min = 0 := by decide
        have e2 : IntKind.u8.max = 255 := by decide
        rw [e1] at a
        rw [e2] at b
        exact ⟨a, b⟩
      exact ⟨UInt8.ofNat z.toNat, by rw [hc]; congr 2; simp; omega⟩

theorem ByteRow.on {w w' : World} {v : Value} {n : Nat} (h : ByteRow w v n) (hb : Below w.heap.size w w') : ByteRow w' v n := by
  obtain ⟨A, c, e, hr⟩ := h
  refine ⟨A, c, e, fun hn => ?_⟩
  obtain ⟨ad, e2, h2, h3⟩ := hr hn
  refine ⟨ad, e2, Nat.lt_of_lt_of_le h2 hb.size, fun k hk => ?_⟩
  obtain ⟨b, h4⟩ := h3 k hk
  exact ⟨b, (hb.cell (by rw [block_of_add]; exact h2)).trans h4⟩

theorem tmod_nat {a b : Int} (ha : 0 ≤ a) (hb : 0 < b) : 0 ≤ a.tmod b ∧ a.tmod b < b := by
  rw [Int.tmod_eq_emod_of_nonneg ha]
  exact ⟨Int.emod_nonneg _ (by omega), Int.emod_lt_of_pos _ hb⟩

theorem a8_val (a b q n : Int) (ha0 : 0 ≤ a) (ha1 : a ≤ 255) (hb0 : 0 ≤ b) (hb1 : b ≤ 255) (hq0 : 0 ≤ q) (hq1 : q ≤ 1) (hn0 : 9 ≤ n) (hn1 : n ≤ 10) :
    ∃ z, (wrap64 (wrap64 (wrap64 (wrap64 a * 31) + wrap64 b) + q)).tmod n = z ∧ 0 ≤ z ∧ z < n := by
  rw [IntWalk.wrap64_in a (by omega), IntWalk.wrap64_in (a * 31) (by omega), IntWalk.wrap64_in b (by omega), IntWalk.wrap64_in (a * 31 + b) (by omega), IntWalk.wrap64_in (a * 31 + b + q) (by omega)]
  exact ⟨_, rfl, tmod_nat (by omega) (by omega)⟩

set_option maxRecDepth 8000 in
theorem a8At_any (v : Value) (m : Nat) (i n : Int) (w : World) (h : ByteRow w v m) (hm : m ≤ 1048576) (hi0 : 0 ≤ i) (hi1 : i ≤ 1) (hn0 : 9 ≤ n) (hn1 : n ≤ 10) :
    Calls Tryd.prog 16 #[v, .int .i64 i, .int .i64 n] w fun e w' => ∃ r : Int, e = .returned (.int .i64 r) ∧ 0 ≤ r ∧ r < n ∧ Below w.heap.size w w' := by
  obtain ⟨A, c, rfl, hr⟩ := h
  rcases Nat.eq_zero_or_pos m with rfl | hp
  · have hb := tmod_nat (show 0 ≤ i * 7 by omega) (show 0 < n by omega)
    go_enter Tryd.func16, Tryd.ntmps16
    go_wp2
    go_ret
    exact ⟨_, rfl, Int.emod_nonneg _ (by omega), Int.emod_lt_of_pos _ (by omega), below_refl _⟩
  · obtain ⟨ad, rfl, hbl, hc⟩ := hr hp
    have h1 := tmod_nat hi0 (show (0 : Int) < m by omega)
    have h2 := tmod_nat (show 0 ≤ i + 1 by omega) (show (0 : Int) < m by omega)
    obtain ⟨p, hp1⟩ : ∃ p : Nat, i.tmod m = p := ⟨(i.tmod m).toNat, by omega⟩
    obtain ⟨q, hq1⟩ : ∃ q : Nat, (i + 1).tmod m = q := ⟨((i + 1).tmod m).toNat, by omega⟩
    rw [hp1] at h1
    rw [hq1] at h2
    obtain ⟨x, hx⟩ := hc p (by omega)
    obtain ⟨y, hy⟩ := hc q (by omega)
    have hpm : p < m := by omega
    have hqm : q < m := by omega
    have hw : IntKind.i64.wrap (i + 1) = i + 1 := IntWalk.i64_in _ (by omega)
    have hz : ((m : Int) == 0) = false := by simp; omega
    clear hc hr h1 h2
    go_enter Tryd.func16, Tryd.ntmps16
    go_wp2
    go_quiet (fail)
    go_wp2
    go_ret
    have hx8 := x.toNat_lt
    have hy8 := y.toNat_lt
    have hd0 : 0 ≤ i / (m : Int) := Int.ediv_nonneg hi0 (by omega)
    have hd1 : i / (m : Int) ≤ i := Int.ediv_le_self _ hi0
    have ha0 : 0 ≤ (x.toNat : Int) := by omega
    have ha1 : (x.toNat : Int) ≤ 255 := by omega
    have hb0 : 0 ≤ (y.toNat : Int) := by omega
    have hb1 : (y.toNat : Int) ≤ 255 := by omega
    have hd2 : i / (m : Int) ≤ 1 := by omega
    obtain ⟨z, hz1, hz2, hz3⟩ := a8_val (x.toNat : Int) (y.toNat : Int) (i / (m : Int)) n ha0 ha1 hb0 hb1 hd0 hd2 hn0 hn1
    exact ⟨z, ret_int hz1, hz2, hz3, below_drewN _ _⟩

theorem names_at {k : Nat} (hk : k < pureNames.length) : pureB pureNames[k] = true ∧ 1 ≤ (funArgs pureNames[k]).1 ∧ (funArgs pureNames[k]).1 ≤ (funArgs pureNames[k]).2.1 := by
  have h : ∀ y ∈ pureNames, pureB y = true ∧ 1 ≤ (funArgs y).1 ∧ (funArgs y).1 ≤ (funArgs y).2.1 := by decide
  exact h _ (List.getElem_mem _)

theorem ones_ok (k : Nat) : ∀ x ∈ List.replicate k (⟨#[49]⟩ : ByteArray), x.size ≤ 1048576 := by
  intro x hx
  rw [List.eq_of_mem_replicate hx]; decide

set_option maxHeartbeats 1000000 in
set_option maxRecDepth 8000 in
theorem FnArgs_walk (v : Value) (m : Nat) (w : World) (h : ByteRow w v m) (hm : m ≤ maxLen) (hL : laidMetH Tryd.prog Rows.fnExactPatternTextRow.laid w) (hsh : w.ShapedOpen Tryd.prog) :
    Calls Tryd.prog 5 #[v] w fun e w' => e = .returned (.bool true) ∧ Below w.heap.size w w' := by
  have HT := Lib.hid (T10.of_laid hL); clear hL
  have HM := Lib.hid (ML.of_shaped hsh); clear hsh
  have H := Lib.hid h
  unfold maxLen at hm
  obtain ⟨A, c, rfl, _⟩ := h
  by_cases hm1 : m ≤ 1048576
  rotate_left
  · go_enter Tryd.func5, Tryd.ntmps5
    go_wp2_with fail
    go_ret
    exact ⟨rfl, below_refl _⟩
  have hstr : Strs (w.alloc (.cells #[.string ⟨#[65]⟩, .string ⟨#[67]⟩, .string ⟨#[69]⟩, .string ⟨#[70]⟩, .string ⟨#[74]⟩, .string ⟨#[76]⟩, .string ⟨#[80]⟩, .string ⟨#[84, 82]⟩, .string ⟨#[82, 69]⟩] 9)) w.heap.size (.slice (some ⟨w.heap.size, 0, none⟩) 9 9) pureNames := World.ownsRow_lit w #[.string ⟨#[65]⟩, .string ⟨#[67]⟩, .string ⟨#[69]⟩, .string ⟨#[70]⟩, .string ⟨#[74]⟩, .string ⟨#[76]⟩, .string ⟨#[80]⟩, .string ⟨#[84, 82]⟩, .string ⟨#[82, 69]⟩] 9 (Nat.le_refl _) (by unfold maxLen; omega) rfl
  have HST := Lib.hid hstr.at_; clear hstr
  have hb0 : Below w.heap.size w (w.alloc (.cells #[.string ⟨#[65]⟩, .string ⟨#[67]⟩, .string ⟨#[69]⟩, .string ⟨#[70]⟩, .string ⟨#[74]⟩, .string ⟨#[76]⟩, .string ⟨#[80]⟩, .string ⟨#[84, 82]⟩, .string ⟨#[82, 69]⟩] 9)) := Joins.below_alloc1 w _
  go_enter Tryd.func5, Tryd.ntmps5
  go_wp2_with fail
  refine (a8At_any _ m 0 9 _ (H.out.on hb0) hm1 (by omega) (by omega) (by omega) (by omega)).mono ?_
  rintro e w1 ⟨r, rfl, r0, r1, b1⟩
  have B1 := Lib.hid (below_trans hb0 b1)
  obtain ⟨k, rfl⟩ : ∃ k : Nat, r = k := ⟨r.toNat, by omega⟩
  have hk9 : k < pureNames.length := by show k < 9; omega
  obtain ⟨ad, hae, hcell⟩ := (HST.out.on b1).at0 hk9
  injection hae with hae
  subst hae
  rw [addr_at] at hcell
  obtain ⟨np, n1, n2⟩ := names_at hk9
  generalize pureNames[k] = s at *
  have HFA := Lib.hid (fun W => FunArgs_any s W)
  have hok := pure_ok np
  have HCD := Lib.hid (fun xs => funRes_code (pureB s) (funArgs s).1 (funArgs s).2.1 xs (funL s xs))
  have HFV : Hid (∀ xs, funV s xs = funRes (pureB s) (funArgs s).1 (funArgs s).2.1 xs (funL s xs)) := fun _ => rfl
  rw [np] at HCD HFV
  rw [hok] at HFA
  generalize (funArgs s).1 = lo at *
  generalize (funArgs s).2.1 = hi at *
  clear HST b1 hb0 np hok
  have hk10 : (k : Int) < 9 := r1
  go_wp2_with fail
  refine (HFA.out _).mono ?_
  rintro e w' ⟨rfl, rfl⟩
  go_wp2_with fail
  refine (a8At_any _ m 1 10 _ (H.out.on B1.out) hm1 (by omega) (by omega) (by omega) (by omega)).mono ?_
  rintro e w2 ⟨r, rfl, q0, q1, b2⟩
  obtain ⟨N, rfl⟩ : ∃ N : Nat, r = N := ⟨r.toNat, by omega⟩
  have B2 := Lib.hid (below_trans B1.out b2)
  clear hcell b2 B1
  have hlit : Strs (w2.alloc (.cells #[] 9)) w2.heap.size (.slice (some ⟨w2.heap.size, 0, none⟩) 0 0) [] := World.ownsRow_lit w2 #[] 0 (Nat.le_refl _) (by unfold maxLen; omega) rfl
  have HLIT := Lib.hid hlit; clear hlit
  go_wp2_with fail
  go_loopw [8, 9] (fun v i wr => ∃ j : Nat, j ≤ N ∧ i = .int .i64 j ∧ Hid (Strs wr w2.heap.size v (List.replicate j ⟨#[49]⟩)) ∧ Below w2.heap.size w2 wr) (fun _ i _ => N - (intOf i).toNat)
  case atStart => exact ⟨0, Nat.zero_le _, rfl, HLIT.out, (Below.refl _ _).alloc (Nat.le_refl _) _⟩
  case round =>
    clear HLIT
    obtain ⟨j, hj, rfl, HS, hbel⟩ := hrel
    have hbs := hbel.size
    by_cases hlt : j < N
    · have hl1 : (List.replicate j (⟨#[49]⟩ : ByteArray)).length < 4398046511104 := by simp; omega
      have hj1 : (j : Int) < N := by omega
      go_wp2_with (first | (at_builtin; refine wpList_append_str wr rfl _ _ rfl w2.heap.size _ _ ⟨#[49]⟩ HS.out rfl rfl hl1 hbs ?_; intro v' w3 hb3 hg3 hbl3 _hv))
      refine ⟨⟨j + 1, by omega, by go_num, ?_, hbel.trans hbl3⟩, by simp [intOf]; omega⟩
      show Strs _ _ _ _
      rw [List.replicate_succ']
      exact hb3
    · obtain rfl : j = N := by omega
      have B3 := Lib.hid (below_trans B2.out hbel)
      have hat := HS.out.at_
      have hl2 : (List.replicate j (⟨#[49]⟩ : ByteArray)).length ≤ 1048576 := by simp; omega
      have HPF := Lib.hid (PureFun_any s _ (List.replicate j ⟨#[49]⟩) wr (HT.out.below B3.out) (HM.out.below B3.out) hat hl2 (ones_ok j))
      obtain ⟨A', c', rfl, _, _⟩ := hat
      have HCO : Hid ((funV s (List.replicate j ⟨#[49]⟩)).2 = 2 ↔ ¬ (lo ≤ (j : Int) ∧ (j : Int) ≤ hi)) := by
        show _ ↔ _
        rw [HFV.out, HCD.out, Bool.true_and, decide_eq_false_iff_not, List.length_replicate]
      have hln : (List.replicate j (⟨#[49]⟩ : ByteArray)).length = j := List.length_replicate
      rw [hln] at HPF
      rw [hln]
      generalize funV s (List.replicate j ⟨#[49]⟩) = V at *
      clear hln HFV HCD HS hl2
      go_wp2_with fail
      refine HPF.out.mono ?_
      rintro e w4 ⟨⟨rr, cc, rfl, hv⟩, b4⟩
      have hcc : cc = V.2 := congrArg Prod.snd hv
      have HB4 := Lib.hid (below_trans B3.out b4)
      have hco := HCO.out
      rw [← hcc] at hco
      have HCO2 := Lib.hid hco
      clear hv hcc hco b4 HCO
      rcases eqForms cc 2 with ⟨e1, e2, e3⟩ | ⟨e1, e2, e3⟩
      · have hno := HCO2.out.1 e3.out
        by_cases hl3 : (j : Int) < lo
        · clear hno
          go_wp2_with fail
          go_ret
          exact ⟨rfl, HB4.out⟩
        · have hl4 : hi < (j : Int) := by omega
          clear hno
          go_wp2_with fail
          go_ret
          exact ⟨rfl, HB4.out⟩
      · have hyes : lo ≤ (j : Int) ∧ (j : Int) ≤ hi := by
          rcases Decidable.em (lo ≤ (j : Int) ∧ (j : Int) ≤ hi) with h | h
          · exact h
          · exact absurd (HCO2.out.2 h) e3.out
        have hl3 : ¬ (j : Int) < lo := by omega
        have hl4 : ¬ hi < (j : Int) := by omega
        clear hyes
        go_wp2_with fail
        go_ret
        exact ⟨ret_bool (by first | rfl | (rw [decide_eq_false (show ¬ (j : Int) < lo by omega), decide_eq_false (show ¬ hi < (j : Int) by omega)]; rfl)), HB4.out⟩

end Go.Proofs.YtkoagpeeohmokaaDoor
