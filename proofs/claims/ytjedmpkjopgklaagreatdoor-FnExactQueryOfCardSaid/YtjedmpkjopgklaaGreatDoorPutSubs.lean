/- impl.putSub and spec.l02Key: each writes keyB of a subscript; PutSubs and KeyOf: both sides and the walks. -/
import Derived.Test.YtjedmpkjopgklaaGreatDoorCanon
import Derived.Test.YtjedmpkjopgklaaGreatDoorSubsL
import Derived.Test.YtjedmpkjopgklaaGreatDoorBuilder
import Derived.Test.YtjedmpkjopgklaaGreatDoorReplace
import Derived.Lib.SmallJoins
namespace Go.Proofs.YtjedmpkjopgklaaGreatDoor
open Go.RowKit
set_option linter.unusedVariables false

theorem own_below {w w' : World} {base : Nat} {e : TypeId} {size : Nat} {v : Value} {n : Nat} {cells : List Value} (h : w.ownsRow base e size v n cells) (hb : Below w.heap.size w w') : w'.ownsRow base e size v n cells := by
  rcases h with ⟨h1, h2 | ⟨g, cap, cur, hv, hg, hh, hr⟩⟩
  · exact ⟨h1, .inl h2⟩
  · refine ⟨h1, .inr ⟨g, cap, cur, hv, hg, ?_, hr⟩⟩
    have hlt : g < w.heap.size := by
      rcases Nat.lt_or_ge g w.heap.size with h | h
      · exact h
      · rw [Array.getElem?_eq_none h] at hh; cases hh
    rw [hb.block g hlt]; exact hh

theorem lt_of_blk {w : World} {g : Nat} {o : Obj} (h : w.heap[g]? = some o) : g < w.heap.size := by
  rcases Nat.lt_or_ge g w.heap.size with h' | h'
  · exact h'
  · rw [Array.getElem?_eq_none h'] at h; cases h

theorem Bld.below {w w' : World} {B b : Nat} {l : List UInt8} (h : Bld w B b l) (hb : Below w.heap.size w w') : Bld w' B b l := by
  rcases h with ⟨hB, v, hbk, hown, hne⟩ | ⟨hB, v, hbk, hown, hne⟩
  · exact .inl ⟨hB, v, by rw [hb.block b (lt_of_blk hbk)]; exact hbk, own_below hown hb, hne⟩
  · exact .inr ⟨hB, v, by rw [hb.block b (lt_of_blk hbk)]; exact hbk, own_below hown hb, hne⟩

def byt (n : Int) (s : Nat) : UInt8 := UInt8.ofNat ((n / 2 ^ s).toNat % 256)

theorem byt_int (n : Int) (s : Nat) (h : 0 ≤ n) : ((byt n s).toNat : Int) = n / 2 ^ s % 256 := by
  have h2 : 0 ≤ n / 2 ^ s := Int.ediv_nonneg h (Int.pow_nonneg (by omega))
  unfold byt
  rw [UInt8.toNat_ofNat_of_lt' (by show _ < 256; omega)]
  omega

/-- The first j bytes of a number in eight. -/
def beN (n : Int) : Nat → List UInt8
  | 0 => []
  | j + 1 => beN n j ++ [byt n (56 - 8 * j)]

theorem beN_len (n : Int) : ∀ j, (beN n j).length = j
  | 0 => rfl
  | j + 1 => by rw [beN, List.length_append, beN_len n j]; rfl

def keyB (s : ByteArray) : List UInt8 := if canon s then 1 :: beN (NM.numOf s.data.toList + 1000000000000000000) 8 else 2 :: (repl 0 [0, 255] s.data.toList ++ [0, 0])

theorem keyB_len (s : ByteArray) : (keyB s).length ≤ s.size * 3 + 12 := by
  unfold keyB
  split
  · rw [List.length_cons, beN_len]; omega
  · have := repl_length 0 [0, 255] s.data.toList
    rw [← ba_size] at this
    simp only [List.length_cons, List.length_append, List.length_nil] at this ⊢; omega

set_option maxHeartbeats 2000000 in
set_option maxRecDepth 8000 in
theorem putSub_any (B b : Nat) (L : List UInt8) (s : ByteArray) (w : World) (hT : T10 w) (hml : ∀ w', Below B w w' → ML w') (h : Bld w B b L) (hL : L.length ≤ 1000000000) (hs : s.size ≤ 1048576) (hBw : B ≤ w.heap.size) :
    Calls Tryz.prog 218 #[.pointer (some ⟨b, 0, none⟩), .string s] w fun e w' => e = .returned (.tuple #[]) ∧ Bld w' B b (L ++ keyB s) ∧ Below B w w' := by
  obtain ⟨b0, b1⟩ := NM.numOf_bd s.data.toList
  have HB0 := Lib.hid b0; have HB1 := Lib.hid b1; clear b0 b1
  have HT := Lib.hid hT; have HM := Lib.hid hml; clear hT hml
  have HH := Lib.hid h; clear h
  cases hc : canon s
  · have HK : Hid (keyB s = 2 :: (repl 0 [0, 255] s.data.toList ++ [0, 0])) := by show _ = _; unfold keyB; rw [hc]; rfl
    go_enter Tryz.func218, Tryz.ntmps218
    go_wp2_with fail
    refine (IsCanon_any s _ HT.out hs).mono ?_
    rintro e w1 ⟨rfl, hb1⟩
    rw [hc]; clear hc
    go_wp2_with fail
    refine (WriteByte_any B b L 2 _ (HH.out.below hb1) (by omega) (by have := hb1.size; omega)).mono ?_
    rintro e w2 ⟨rfl, B2, hb2⟩
    have HB2 := Lib.hid B2; clear B2
    have hB1 : Below B w w1 := hb1.mono hBw
    have hB2 : Below B w w2 := hB1.trans hb2
    have hs1 := hB1.size; have hs2 := hB2.size
    have HM2 : Hid (ML w2) := HM.out _ hB2
    go_wp2_with fail
    refine (ReplaceAll_one s 0 ⟨#[0, 255]⟩ _ HM2.out hs (by decide) (by decide)).mono ?_
    rintro e w3 ⟨⟨r, rfl, hr⟩, hb3⟩
    have hrs : r.size ≤ 1048576 * 3 := by
      have h2 := repl_length 0 [0, 255] s.data.toList
      rw [ba_size r, hr]
      rw [← ba_size] at h2
      have e2 : (⟨#[0, 255]⟩ : ByteArray).data.toList = [0, 255] := rfl
      rw [e2]
      simp only [List.length_cons, List.length_nil] at h2
      omega
    have HR := Lib.hid hr; clear hr
    have hs3 := hb3.size
    go_wp2_with fail
    refine (WriteString_any B b (L ++ [2]) r _ (HB2.out.below hb3) (by simp; omega) (by omega)).mono ?_
    rintro e w4 ⟨rfl, B4, hb4⟩
    have HB4 := Lib.hid B4; clear B4
    have hs4 := hb4.size
    go_wp2_with fail
    refine (WriteString_any B b (L ++ [2] ++ r.data.toList) ⟨#[0, 0]⟩ _ HB4.out (by simp; have e : (⟨#[0, 0]⟩ : ByteArray).size = 2 := rfl; omega) (by omega)).mono ?_
    rintro e w5 ⟨rfl, B5, hb5⟩
    go_wp2_with fail
    go_end0
    refine ⟨rfl, ?_, (hB2.trans (hb3.mono (by omega))).trans (hb4.trans hb5)⟩
    rw [HK.out]
    rw [HR.out] at B5
    simpa using B5
  · have HK : Hid (keyB s = 1 :: beN (NM.numOf s.data.toList + 1000000000000000000) 8) := by show _ = _; unfold keyB; rw [hc]; rfl
    go_enter Tryz.func218, Tryz.ntmps218
    go_wp2_with fail
    refine (IsCanon_any s _ HT.out hs).mono ?_
    rintro e w1 ⟨rfl, hb1⟩
    rw [hc]; clear hc
    go_wp2_with fail
    refine (NumOf_any s _ hs).mono ?_
    rintro e w2 ⟨n, rfl, HN, hb2⟩
    obtain ⟨M, hM⟩ : ∃ M : Int, n + 1000000000000000000 = M := ⟨_, rfl⟩
    have hM0 : 1 ≤ M := by have := HB0.out; have := HN.out; omega
    have hM1 : M ≤ 1999999999999999999 := by have := HB1.out; have := HN.out; omega
    have HK2 : Hid (keyB s = 1 :: beN M 8) := by show _ = _; rw [HK.out, ← hM, HN.out]
    clear HK HB0 HB1
    have hb12 := below_trans hb1 hb2
    have hs2 := hb12.size
    go_wp2_with fail
    refine (WriteByte_any B b L 1 _ (HH.out.below hb12) (by omega) (by omega)).mono ?_
    rintro e w3 ⟨rfl, B3, hb3⟩
    have HB3 := Lib.hid B3; clear B3
    have hs3 := hb3.size
    have hB3 : Below B w w3 := (hb12.mono hBw).trans hb3
    go_wp2_with fail
    go_loopw [5] (fun i wr => ∃ j : Nat, j ≤ 8 ∧ i = .int .i64 (56 - 8 * (j : Int)) ∧ Hid (Bld wr B b (L ++ [1] ++ beN M j)) ∧ Below B w wr) (fun i _ => (intOf i + 8).toNat)
    case atStart => exact ⟨0, by omega, rfl, by show Bld _ _ _ _; simpa [beN] using HB3.out, hB3⟩
    case round =>
      obtain ⟨j, hj, rfl, HBj, hbj⟩ := hrel
      have hsj := hbj.size
      by_cases hlt : j < 8
      · have hsh : (0 : Int) ≤ 56 - 8 * (j : Int) := by omega
        go_wp2_with fail
        rw [← byt_int M (56 - 8 * j) (by omega)]
        refine (WriteByte_any B b (L ++ [1] ++ beN M j) (byt M (56 - 8 * j)) _ HBj.out (by simp; rw [beN_len]; omega) (by omega)).mono ?_
        rintro e w4 ⟨rfl, B4, hb4⟩
        go_wp2_with fail
        refine ⟨⟨j + 1, by omega, by go_num, ?_, hbj.trans hb4⟩, by simp [intOf]; omega⟩
        show Bld _ _ _ _
        rw [beN, ← List.append_assoc]
        exact B4
      · obtain rfl : j = 8 := by omega
        go_wp2_with fail
        refine bodyPost_ret (results_none rfl _ _ _) rfl ?_
        refine ⟨rfl, ?_, hbj⟩
        rw [HK2.out]
        simpa using HBj.out

/-- The keys of a list. -/
def putB (xs : List ByteArray) : List UInt8 := xs.flatMap keyB

theorem putB_len (xs : List ByteArray) (h : ∀ x ∈ xs, x.size ≤ 24) : (putB xs).length ≤ xs.length * 84 := by
  induction xs with
  | nil => simp [putB]
  | cons x r ih =>
    have h1 := keyB_len x
    have h2 := h x List.mem_cons_self
    have h3 := ih (fun y hy => h y (List.mem_cons_of_mem _ hy))
    have e : putB (x :: r) = keyB x ++ putB r := by simp [putB]
    rw [e, List.length_append, List.length_cons]; omega

def putSubsB (xs : List ByteArray) : List UInt8 := if subsOkB xs then putB xs else []

set_option maxRecDepth 8000 in
theorem PutSubs_any (v : Value) (xs : List ByteArray) (w : World) (hT : T10 w) (hml : ML w) (h : StrsAt w w.heap.size v xs) (hl : xs.length ≤ 1048576) (hz : ∀ x ∈ xs, x.size ≤ 1048576) :
    Calls Tryz.prog 202 #[v] w fun e w' => ∃ r : ByteArray, e = .returned (.string r) ∧ Hid (r.data.toList = putSubsB xs) ∧ Below w.heap.size w w' := by
  have HT := Lib.hid hT; have HM := Lib.hid hml; clear hT hml
  have HZ := Lib.hid hz; clear hz
  cases hok : subsOkB xs
  · have HV : Hid (putSubsB xs = []) := by show _ = _; unfold putSubsB; rw [hok]; rfl
    go_enter Tryz.func202, Tryz.ntmps202
    go_wp2_with fail
    refine (SubsOk_any v xs _ _ h hl HZ.out).mono ?_
    rintro e w' ⟨rfl, rfl⟩
    rw [hok]
    go_wp2_with fail
    go_ret
    exact ⟨_, rfl, HV.out.symm, below_refl _⟩
  · have HV : Hid (putSubsB xs = putB xs) := by show _ = _; unfold putSubsB; rw [hok]; rfl
    obtain ⟨h4, h24⟩ := subsOk_len hok
    have H24 := Lib.hid h24; clear h24
    go_enter Tryz.func202, Tryz.ntmps202
    go_wp2_with fail
    refine (SubsOk_any v xs _ _ h hl HZ.out).mono ?_
    rintro e w' ⟨rfl, rfl⟩
    rw [hok]
    obtain ⟨A, c, rfl, hc, hr⟩ := h
    go_wp2_with fail
    go_loopw [5, 11] (fun _ i wr => ∃ k : Nat, k ≤ xs.length ∧ i = .int .i64 k ∧ Hid (Bld wr w.heap.size w.heap.size (putB (xs.take k))) ∧ Below w.heap.size w wr) (fun _ i _ => xs.length - (intOf i).toNat)
    case atStart => exact ⟨0, Nat.zero_le _, rfl, Bld.new w, Joins.below_alloc1 w _⟩
    case round =>
      obtain ⟨k, hk, rfl, HB, hbel⟩ := hrel
      have hbs := hbel.size
      by_cases hlt : k < xs.length
      · obtain ⟨ad, rfl, _, hcell⟩ := (hr.below hbel).strAt hlt
        have hzx := H24.out _ (List.getElem_mem hlt)
        have HD : Hid (putB (xs.take (k + 1)) = putB (xs.take k) ++ keyB xs[k]) := by
          show putB _ = _
          unfold putB
          rw [List.take_succ_eq_append_getElem hlt, List.flatMap_append, List.flatMap_cons, List.flatMap_nil, List.append_nil]
        have hpl := putB_len (xs.take k) (fun x hx => H24.out x (List.mem_of_mem_take hx))
        rw [List.length_take] at hpl
        generalize xs[k] = x at *
        go_wp2_with fail
        refine (putSub_any w.heap.size w.heap.size (putB (xs.take k)) x _ (HT.out.below hbel) (fun w' hb' => HM.out.below (hbel.trans hb')) HB.out (by omega) (by omega) hbs).mono ?_
        rintro e w2 ⟨rfl, B2, hb2⟩
        have HB2 := Lib.hid B2; clear B2
        go_wp2_with fail
        refine ⟨⟨k + 1, by omega, by go_num, by show Bld _ _ _ _; rw [HD.out]; exact HB2.out, hbel.trans hb2⟩, by simp [intOf]; omega⟩
      · obtain rfl : k = xs.length := by omega
        rw [List.take_length] at HB
        go_wp2_with fail
        refine (BString_any w.heap.size w.heap.size (putB xs) _ HB.out hbs).mono ?_
        rintro e w2 ⟨rfl, hb2⟩
        go_wp2_with fail
        go_ret
        exact ⟨_, rfl, by show _ = _; rw [HV.out], hbel.trans hb2⟩

theorem wpList_append_byte2 (w : World) {ops : Array Oper} {rest : List Oper} {o : Oper} {a : Act} {Q : Exit → Act → World → Prop} (hgd : o.guard = none) (s x : Operand)
    (ho : o.op = .call { callee := .builtin .append, args := #[s, x], argTypes := #[89, 89] }) (base : Nat) (v : Value) (l : List UInt8) (c d : UInt8) (hown : Bytes w base v l) (hs : a.eval s = v)
    (hx : a.eval x = .slice (some ⟨w.heap.size, 0, none⟩) 2 2) (hlen : l.length + 1 < 140737488355328) (hbase : base ≤ w.heap.size)
    (h : ∀ v' w', Bytes w' base v' (l ++ [c, d]) → w.grownBy w' v.ownBlock → Below base w w' → (v'.ownBlock = v.ownBlock ∨ v'.ownBlock = some (w.heap.size + 1)) → wpList Tryz.prog ops Q rest (a.put o.dst v') w') :
    wpList Tryz.prog ops Q (o :: rest) a (w.alloc (.cells #[.int .u8 (c.toNat : Int), .int .u8 (d.toNat : Int)] 5)) := by
  obtain ⟨i0, hi0, hz0, hz1, hz2⟩ := info_parts info_u8
  refine wpList_plain hgd fun K hK => ?_
  obtain ⟨v', w', hrun, h2, h3, _, h5⟩ := run_append_own_at (P := Tryz.prog) (w.alloc (.cells #[.int .u8 (c.toNat : Int), .int .u8 (d.toNat : Int)] 5)) base 89 o.type 5 i0 _ 1 1 Tryz.underlying89 hi0 hz0 hz1 hz2 rfl (by omega) v l.length (byteVs l) (hown.alloc _)
    ⟨w.heap.size, 0, none⟩ 2 2 [.int .u8 (c.toNat : Int), .int .u8 (d.toNat : Int)] rfl (fun j u hj => by
      match j, hj with
      | 0, hj => simp at hj; subst hj; simp [Addr.add]
      | 1, hj => simp at hj; subst hj; simp [Addr.add]) (fun u hu => by simp at hu; rcases hu with rfl | rfl <;> rfl) (by unfold maxLen; omega) (by omega) (by simp; omega)
  have hg : w.grownBy w' v.ownBlock := grownBy_trans' (World.grownBy_alloc w _ _) h3
  have hbl : Below base w w' := by
    refine (Below.refl _ _).grown hg hbase (fun k hk => ?_)
    exact (World.ownsRow.lt hown k hk).1
  unfold Oper.wp execOp
  simp only [ho, resolve, invoke, builtin, Sem.run_bind, Sem.run_pure, Result.andThen_ok, List.map_toArray, List.map_cons, List.map_nil, hs, hx, hrun]
  refine hK _ _ (h v' w' ?_ hg hbl (by simpa using h5))
  show w'.ownsRow base 5 1 v' (l ++ [c, d]).length (byteVs (l ++ [c, d]))
  rw [byteVs_append, List.length_append]
  exact h2

set_option maxHeartbeats 2000000 in
set_option maxRecDepth 8000 in
theorem l02Key_any (s : ByteArray) (w : World) (hs : s.size ≤ 1048576) : Calls Tryz.prog 198 #[.string s] w fun e w' => ∃ r : ByteArray, e = .returned (.string r) ∧ Hid (r.data.toList = keyB s) ∧ Below w.heap.size w w' := by
  obtain ⟨b0, b1⟩ := NM.numOf_bd s.data.toList
  have HB0 := Lib.hid b0; have HB1 := Lib.hid b1; clear b0 b1
  cases hc : canon s
  · have HK : Hid (keyB s = 2 :: (repl 0 [0, 255] s.data.toList ++ [0, 0])) := by show _ = _; unfold keyB; rw [hc]; rfl
    go_enter Tryz.func198, Tryz.ntmps198
    go_wp2_with fail
    refine (l01Canon_any s _ hs).mono ?_
    rintro e w1 ⟨rfl, hb1⟩
    rw [hc]; clear hc
    have hE := (Bytes.empty w w.heap.size (Nat.le_refl _)).below hb1
    have hbA : Below w.heap.size w w1 := below_trans (Joins.below_alloc1 w _) hb1
    have hsA := hbA.size
    go_wp2_with (at_builtin; refine wpList_append_byte w1 rfl _ _ rfl w.heap.size _ [] 2 hE rfl rfl (by simp) hsA ?_; intro v1 w2 hO2 _hg hb2 _hv)
    have HB2 := hbA.trans hb2
    go_loopw [3, 6] (fun v i wr => ∃ (k : Nat) (L : List UInt8), k ≤ s.size ∧ i = .int .i64 k ∧ L.length ≤ 2 * k + 1 ∧ Bytes wr w.heap.size v L ∧ Below w.heap.size w wr ∧ Hid (keyB s = L ++ (repl 0 [0, 255] (sfx s k) ++ [0, 0]))) (fun _ i _ => s.size - (intOf i).toNat)
    case atStart => exact ⟨0, [2], Nat.zero_le _, rfl, by simp, hO2, HB2, by show _ = _; rw [HK.out]; rfl⟩
    case round =>
      clear hO2 HB2
      obtain ⟨k, L, hk, rfl, hL, hown, hbel, HI⟩ := hrel
      have hbs := hbel.size
      by_cases hlt : k < s.size
      · have HS := Lib.hid (sfx_lt hlt)
        rcases eqForms (s[k].toNat : Int) 0 with ⟨e1, e2, e3⟩ | ⟨e1, e2, e3⟩
        · have HC : Hid (s[k] = 0) := by show s[k] = 0; exact UInt8.toNat_inj.1 (by have := e3.out; have e : (0 : UInt8).toNat = 0 := rfl; omega)
          have tok : True := trivial
          go_wp2_with (first | (at_builtin; have _t := tok; refine wpList_append_byte wr rfl _ _ rfl w.heap.size _ L s[k] hown rfl rfl (by omega) hbs ?_; intro v' w1 hb1 hg1 hbl1 _hv; clear tok) | (at_builtin; refine wpList_append_byte w1 rfl _ _ rfl w.heap.size _ (L ++ [s[k]]) 255 hb1 rfl rfl (by simp; omega) (by have := hbl1.size; omega) ?_; intro v2 w2 hb2 hg2 hbl2 _hv2))
          refine ⟨⟨k + 1, L ++ [s[k]] ++ [255], by omega, by go_num, by simp; omega, hb2, hbel.trans (hbl1.trans hbl2), ?_⟩, by simp [intOf]; omega⟩
          show _ = _
          rw [HI.out, HS.out, HC.out, repl_cons, if_pos rfl]; simp
        · have HC : Hid (s[k] ≠ 0) := fun h => e3.out (by rw [h]; rfl)
          go_wp2_with (at_builtin; refine wpList_append_byte wr rfl _ _ rfl w.heap.size _ L s[k] hown rfl rfl (by omega) hbs ?_; intro v' w1 hb1 hg1 hbl1 _hv)
          refine ⟨⟨k + 1, L ++ [s[k]], by omega, by go_num, by simp; omega, hb1, hbel.trans hbl1, ?_⟩, by simp [intOf]; omega⟩
          show _ = _
          rw [HI.out, HS.out, repl_cons, if_neg HC.out]; simp
      · go_wp2_with (at_builtin; refine wpList_append_byte2 wr rfl _ _ rfl w.heap.size _ L 0 0 hown rfl rfl (by omega) hbs ?_; intro v' w1 hb1 hg1 hbl1 _hv; obtain ⟨r, hcv, hr, hrz⟩ := string_of_own hb1; have HR := Lib.hid hr; clear hr hrz)
        go_ret
        refine ⟨_, rfl, ?_, hbel.trans hbl1⟩
        show _ = _
        rw [HR.out, HI.out, sfx_ge (s := s) (by omega), repl_nil, List.nil_append]
  · have HK : Hid (keyB s = 1 :: beN (NM.numOf s.data.toList + 1000000000000000000) 8) := by show _ = _; unfold keyB; rw [hc]; rfl
    go_enter Tryz.func198, Tryz.ntmps198
    go_wp2_with fail
    refine (l01Canon_any s _ hs).mono ?_
    rintro e w1 ⟨rfl, hb1⟩
    rw [hc]; clear hc
    go_wp2_with fail
    refine (l01Of_any s _ hs).mono ?_
    rintro e w2 ⟨n, rfl, HN, rfl⟩
    obtain ⟨M, hM⟩ : ∃ M : Int, n + 1000000000000000000 = M := ⟨_, rfl⟩
    have hM0 : 1 ≤ M := by have := HB0.out; have := HN.out; omega
    have hM1 : M ≤ 1999999999999999999 := by have := HB1.out; have := HN.out; omega
    have HK2 : Hid (keyB s = 1 :: beN M 8) := by show _ = _; rw [HK.out, ← hM, HN.out]
    clear HK HB0 HB1
    have hE := (Bytes.empty w w.heap.size (Nat.le_refl _)).below hb1
    have hbA : Below w.heap.size w w1 := below_trans (Joins.below_alloc1 w _) hb1
    have hsA := hbA.size
    go_wp2_with (at_builtin; refine wpList_append_byte w1 rfl _ _ rfl w.heap.size _ [] 1 hE rfl rfl (by simp) hsA ?_; intro v1 w2 hO2 _hg hb2 _hv)
    have HB2 := hbA.trans hb2
    go_loopw [3, 5] (fun v i wr => ∃ j : Nat, j ≤ 8 ∧ i = .int .i64 (7 - (j : Int)) ∧ Bytes wr w.heap.size v ([1] ++ beN M j) ∧ Below w.heap.size w wr) (fun _ i _ => (intOf i + 1).toNat)
    case atStart => exact ⟨0, by omega, rfl, by simpa [beN] using hO2, HB2⟩
    case round =>
      clear hO2 HB2
      obtain ⟨j, hj, rfl, hown, hbj⟩ := hrel
      have hsj := hbj.size
      by_cases hlt : j < 8
      · have hsh : (0 : Int) ≤ 7 - (j : Int) := by omega
        have hbl : ([1] ++ beN M j).length < 140737488355328 := by rw [List.length_append, beN_len]; simp; omega
        have hby := byt_int M (8 * (7 - j)) (by omega)
        have HY := Lib.hid hby; clear hby
        go_wp2_with (at_builtin; rw [← HY.out]; refine wpList_append_byte wr rfl _ _ rfl w.heap.size _ ([1] ++ beN M j) (byt M (8 * (7 - j))) hown rfl rfl hbl hsj ?_; intro v' w3 hb3 hg3 hbl3 _hv)
        refine ⟨⟨j + 1, by omega, by go_num, ?_, hbj.trans hbl3⟩, by simp [intOf]; omega⟩
        rw [beN, ← List.append_assoc, show 56 - 8 * j = 8 * (7 - j) by omega]
        exact hb3
      · obtain rfl : j = 8 := by omega
        obtain ⟨r, hcv, hr, hrz⟩ := string_of_own hown
        have HR := Lib.hid hr; clear hr hrz
        go_wp2_with fail
        go_ret
        exact ⟨_, rfl, by show _ = _; rw [HR.out, HK2.out]; rfl, hbj⟩

end Go.Proofs.YtjedmpkjopgklaaGreatDoor
