/- Tokens: both sides. -/
import Derived.Test.YtkoagpeeohmokaaDoorTok4
import Derived.Test.YtkoagpeeohmokaaDoorAppendT
import Derived.Test.YtkoagpeeohmokaaDoorAppendStr
namespace Go.Proofs.YtkoagpeeohmokaaDoor
open Go.RowKit
set_option linter.unusedVariables false

/-- A token as it lies in memory. -/
structure TokV where
  kind : Int
  text : ByteArray
  at_ : Int

def TokV.cells (x : TokV) : List Value := [.int .i64 x.kind, .string x.text, .int .i64 x.at_]

def tokVs (L : List TokV) : List Value := L.flatMap TokV.cells

def TokV.raw (x : TokV) : Int × List UInt8 × Int := (x.kind, x.text.data.toList, x.at_)

theorem raw_inj {x y : TokV} (h : x.raw = y.raw) : x = y := by
  obtain ⟨a, b, c⟩ := x
  obtain ⟨a2, b2, c2⟩ := y
  simp only [TokV.raw, Prod.mk.injEq] at h
  obtain ⟨rfl, h2, rfl⟩ := h
  have : b = b2 := by
    cases b; cases b2
    congr 1
    exact Array.toList_inj.1 h2
  rw [this]

theorem raws_inj : ∀ {l m : List TokV}, l.map TokV.raw = m.map TokV.raw → l = m
  | [], [], _ => rfl
  | [], _ :: _, h => by simp at h
  | _ :: _, [], h => by simp at h
  | x :: l, y :: m, h => by
    simp only [List.map_cons, List.cons.injEq] at h
    rw [raw_inj h.1, raws_inj h.2]

theorem tokVs_append (l : List TokV) (x : TokV) : tokVs (l ++ [x]) = tokVs l ++ [.int .i64 x.kind, .string x.text, .int .i64 x.at_] := by
  simp [tokVs, TokV.cells]

theorem tokVs_len : ∀ l : List TokV, (tokVs l).length = l.length * 3
  | [] => rfl
  | x :: l => by
    have := tokVs_len l
    simp only [tokVs, List.flatMap_cons, List.length_append, List.length_cons] at *
    rw [this]
    simp [TokV.cells]; omega

/-- A row of tokens of the call's own. -/
def Toks (w : World) (base : Nat) (v : Value) (L : List TokV) : Prop := w.ownsRow base 44 3 v L.length (tokVs L)

theorem Toks.kept {w w' : World} {base : Nat} {v : Value} {L : List TokV} (h : Toks w base v L) (hb : Below w.heap.size w w') : Toks w' base v L := by
  refine ⟨h.1, h.2.imp id fun ⟨g, cap, cur, e1, e2, e3, e4⟩ => ⟨g, cap, cur, e1, e2, ?_, e4⟩⟩
  have hg : g < w.heap.size := by
    rcases Nat.lt_or_ge g w.heap.size with h' | h'
    · exact h'
    · rw [Array.getElem?_eq_none h'] at e3; cases e3
  rw [hb.block g hg]; exact e3

theorem Toks.nil (w : World) {base : Nat} (hb : base ≤ w.heap.size) : Toks (w.alloc (.cells #[] 44)) base (.slice (some ⟨w.heap.size, 0, none⟩) 0 0) [] := World.ownsRow_lit w #[] 0 hb (by unfold maxLen; omega) rfl

/-- What Tokens hands back. -/
def GotToks (s : ByteArray) (w : World) (w' : World) (e : Ending) : Prop := ∃ (v : Value) (L : List TokV), e = .returned (.tuple #[v, .int .i64 (tokRes s).2]) ∧ Toks w' w.heap.size v L ∧ L.length ≤ 200 ∧ Hid (L.map TokV.raw = (tokRes s).1)

theorem res_many {s : ByteArray} (h : 120 < s.size) : tokRes s = ([], 4) := if_pos h

theorem res_none {s : ByteArray} (h : ¬ 120 < s.size) (hn : toks s 0 = none) : tokRes s = ([], 6) := by
  unfold tokRes; rw [if_neg h, hn]

theorem res_some {s : ByteArray} (h : ¬ 120 < s.size) {l : List (Int × List UInt8 × Int)} (hn : toks s 0 = some l) : tokRes s = (l, 0) := by
  unfold tokRes; rw [if_neg h, hn]

/-- The first tokens are read, the rest is to come. -/
def Done (s : ByteArray) (L : List TokV) (k : Nat) : Prop := toks s 0 = (toks s k).map (L.map TokV.raw ++ ·)

theorem Done.start (s : ByteArray) : Done s [] 0 := by unfold Done; simp

theorem Done.none {s : ByteArray} {L : List TokV} {k : Nat} (h : Done s L k) (hk : k < s.size) (hn : lexT (sfx s k) = .none) : toks s 0 = .none := by
  unfold Done at h; rw [h, toks_none hk hn]; rfl

theorem Done.more {s : ByteArray} {L : List TokV} {k : Nat} (h : Done s L k) (hk : k < s.size) {kind : Int} {r : ByteArray} {n : Nat} (hn : lexT (sfx s k) = some (kind, r.data.toList, n)) : Done s (L ++ [(⟨kind, r, k⟩ : TokV)]) (k + n) := by
  unfold Done at *; rw [h, toks_some hk hn, Option.map_map]
  congr 1
  funext x
  simp [TokV.raw]

theorem Done.done {s : ByteArray} {L : List TokV} {k : Nat} (h : Done s L k) (hk : s.size ≤ k) : toks s 0 = some ((L ++ [(⟨6, ⟨#[]⟩, k⟩ : TokV)]).map TokV.raw) := by
  unfold Done at h; rw [h, toks_end hk]; simp [TokV.raw]

theorem Toks.of {w : World} {base : Nat} {v : Value} {L : List TokV} {kind : Int} {r : ByteArray} {a : Int} (h : w.ownsRow base 44 3 v (L.length + 1) (tokVs L ++ [.int .i64 kind, .string r, .int .i64 a])) : Toks w base v (L ++ [⟨kind, r, a⟩]) := by
  unfold Toks
  rw [List.length_append, tokVs_append]
  exact h

theorem Toks.grow {w w' : World} {base : Nat} {v : Value} {L : List TokV} (h : Toks w base v L) (o : Obj) : Toks (w.alloc o) base v L := h.kept ((below_refl w).alloc (Nat.le_refl _) _)

set_option maxHeartbeats 1000000 in
set_option maxRecDepth 20000 in
theorem Tokens_any (s : ByteArray) (w : World) (hs : s.size ≤ 1048576) : Calls Tryd.prog 7 #[.string s] w fun e w' => GotToks s w w' e ∧ Below w.heap.size w w' := by
  by_cases h120 : 120 < s.size
  · have HR := Lib.hid (res_many h120)
    go_enter Tryd.func7, Tryd.ntmps7
    go_wp2_with fail
    go_ret2
    exact ⟨⟨_, [], by rw [HR.out]; rfl, ⟨rfl, .inl ⟨rfl, rfl⟩⟩, by simp, by rw [HR.out]; rfl⟩, below_refl _⟩
  go_enter Tryd.func7, Tryd.ntmps7
  go_wp2
  go_loopw [4, 5, 6, 7] (fun v i _ _ wr => ∃ (k : Nat) (L : List TokV), k ≤ s.size ∧ i = .int .i64 k ∧ L.length ≤ k ∧ Toks wr w.heap.size v L ∧ Below w.heap.size w wr ∧ Hid (Done s L k)) (fun _ i _ _ _ => s.size - (intOf i).toNat)
  case atStart => exact ⟨0, [], by omega, rfl, by simp, Toks.nil w (Nat.le_refl _), (below_refl w).alloc (Nat.le_refl _) _, Done.start s⟩
  case round =>
    obtain ⟨k, L, hk, rfl, hL, hT, hbel, HD⟩ := hrel
    have HT := Lib.hid hT
    have HB := Lib.hid hbel
    clear hT hbel
    by_cases hlt : k < s.size
    · go_wp2_with fail
      refine (tokenAt_any s k _ hs hlt).mono ?_
      rintro e w1 ⟨⟨kind, r, n, rfl, hX⟩, b1⟩
      have HX := Lib.hid hX
      have HT1 := Lib.hid (HT.out.kept b1)
      have HB1 := Lib.hid (below_trans HB.out b1)
      clear hX b1
      by_cases hn : n = 0
      · subst hn
        have hnone : lexT (sfx s k) = none := by
          rcases HX.out.out with h | h
          · exact h.2
          · exact absurd h.1 (by omega)
        have HR := Lib.hid (res_none h120 (HD.out.none hlt hnone))
        go_wp2_with fail
        go_ret2
        exact ⟨⟨_, [], by rw [HR.out]; rfl, ⟨rfl, .inl ⟨rfl, rfl⟩⟩, by simp, by rw [HR.out]; rfl⟩, HB1.out.alloc HB1.out.size _⟩
      · have hsome : lexT (sfx s k) = some (kind, r.data.toList, n) := by
          rcases HX.out.out with h | h
          · exact absurd h.1 hn
          · exact h.2
        have hn0 : ¬ (n : Int) = 0 := by omega
        have hbd := (lexT_bd hsome).2
        have hkn : k + n ≤ s.size := by unfold sfx at hbd; rw [List.length_drop, ← ba_size] at hbd; simp at hbd; omega
        have HD2 := Lib.hid (HD.out.more hlt hsome)
        clear hsome hbd HX
        have hl1 : L.length < 1099511627776 := by omega
        have hbs : w.heap.size ≤ w1.heap.size := HB1.out.size
        have HO := Lib.hid (HT1.out.grow (w' := w1) (.cells #[.int .i64 kind, .string r, .int .i64 (k : Int)] 44))
        have hbs2 : w.heap.size ≤ (w1.alloc (.cells #[.int .i64 kind, .string r, .int .i64 (k : Int)] 44)).heap.size := by simp; omega
        have HB2 := Lib.hid (HB1.out.alloc HB1.out.size (.cells #[.int .i64 kind, .string r, .int .i64 (k : Int)] 44))
        have HSZ : Hid ((w1.alloc (.cells #[.int .i64 kind, .string r, .int .i64 (k : Int)] 44)).heap.size = w1.heap.size + 1) := by show _ = _; simp
        have HL1 := Lib.hid hl1; have HS1 := Lib.hid hbs2
        clear hl1 hbs2
        go_wp2_with (at_builtin; refine wpList_append_Tok (w1.alloc (.cells #[.int .i64 kind, .string r, .int .i64 (k : Int)] 44)) rfl _ _ rfl w.heap.size _ L.length (tokVs L) _ _ _ rfl rfl rfl HO.out rfl (by rw [HSZ.out]; rfl) HL1.out HS1.out ?_; intro v' w2 hb2 hg2 hbl2 _hv)
        have h3 := Toks.of hb2
        exact ⟨⟨k + n, _, hkn, by go_num, by rw [List.length_append, List.length_singleton]; omega, h3, HB2.out.trans hbl2, HD2.out⟩, by simp [intOf]; omega⟩
    · have HR := Lib.hid (res_some h120 (HD.out.done (by omega)))
      have hl1 : L.length < 1099511627776 := by omega
      have hbs2 : w.heap.size ≤ wr.heap.size := HB.out.size
      go_wp2_with (at_builtin; refine wpList_append_Tok wr rfl _ _ rfl w.heap.size _ L.length (tokVs L) _ _ _ rfl rfl rfl HT.out rfl rfl hl1 hbs2 ?_; intro v' w2 hb2 hg2 hbl2 _hv)
      have h3 := Toks.of hb2
      go_ret2
      exact ⟨⟨_, _, by rw [HR.out]; rfl, h3, by rw [List.length_append, List.length_singleton]; omega, by rw [HR.out]; rfl⟩, HB.out.trans hbl2⟩

theorem lexT_kind {l : List UInt8} {x : Int × List UInt8 × Nat} (h : lexT l = some x) : x.1 ≠ 6 := by
  cases l with
  | nil => cases h
  | cons c r =>
    unfold lexT at h
    simp only at h
    split at h
    · injection h with h; subst h; decide
    · split at h
      · cases hu : unq r with
        | none => rw [hu] at h; cases h
        | some y => rw [hu] at h; injection h with h; subst h; show (3 : Int) ≠ 6; decide
      · split at h
        · injection h with h; subst h; show (1 : Int) ≠ 6; decide
        · split at h
          · injection h with h; subst h; show (2 : Int) ≠ 6; decide
          · split at h
            · cases h
            · injection h with h; subst h; show (4 : Int) ≠ 6; decide

theorem Toks.off {w w' : World} {base : Nat} {v : Value} {L : List TokV} (h : Toks w base v L) {o o' : Obj} (hg : ((w.alloc o).grownBy w' v.ownBlock)) (ho : (w.alloc o).heap[w.heap.size]? = some o') : w'.heap[w.heap.size]? = some o' := by
  refine (hg.block _ (by simp) (fun e => ?_)).trans ho
  have := World.ownsRow.lt h _ e.symm
  omega

set_option maxHeartbeats 1000000 in
set_option maxRecDepth 20000 in
theorem sTokens_any (s : ByteArray) (w : World) (hs : s.size ≤ 1048576) : Calls Tryd.prog 6 #[.string s] w fun e w' => GotToks s w w' e ∧ Below w.heap.size w w' := by
  by_cases h120 : 120 < s.size
  · have HR := Lib.hid (res_many h120)
    go_enter Tryd.func6, Tryd.ntmps6
    go_wp2_with fail
    go_ret2
    exact ⟨⟨_, [], by rw [HR.out]; rfl, Toks.nil w (Nat.le_refl _), by simp, by rw [HR.out]; rfl⟩, (below_refl w).alloc (Nat.le_refl _) _⟩
  go_enter Tryd.func6, Tryd.ntmps6
  go_wp2
  go_loopw [4, 5, 6, 7, 8] (fun v i _ _ _ wr => ∃ (k : Nat) (L : List TokV), k ≤ s.size ∧ i = .int .i64 k ∧ L.length ≤ k ∧ Toks wr w.heap.size v L ∧ Below w.heap.size w wr ∧ Hid (Done s L k)) (fun _ i _ _ _ _ => s.size - (intOf i).toNat)
  case atStart => exact ⟨0, [], by omega, rfl, by simp, Toks.nil w (Nat.le_refl _), (below_refl w).alloc (Nat.le_refl _) _, Done.start s⟩
  case round =>
    obtain ⟨k, L, hk, rfl, hL, hT, hbel, HD⟩ := hrel
    have HT := Lib.hid hT
    have HB := Lib.hid hbel
    clear hT hbel
    have hl1 : L.length < 1099511627776 := by omega
    have HL1 := Lib.hid hl1; clear hl1
    by_cases hlt : k < s.size
    · go_wp2_with fail
      refine (l05Lex_any s k _ hs hlt).mono ?_
      rintro e w1 ⟨⟨kind, r, a, q, b, rfl, hX⟩, b1⟩
      have HX := Lib.hid hX
      have HT1 := Lib.hid (HT.out.kept b1)
      have HB1 := Lib.hid (below_trans HB.out b1)
      clear hX b1
      cases b
      · have hnone : lexT (sfx s k) = none := by
          rcases HX.out.out with h | h
          · exact h.2
          · exact absurd h.1 (by decide)
        have HR := Lib.hid (res_none h120 (HD.out.none hlt hnone))
        go_wp2_with fail
        go_ret2
        have hnil := Toks.nil (base := w.heap.size) (w1.alloc (.cells #[.int .i64 kind, .string r, .int .i64 a] 44)) (by have := HB1.out.size; simp; omega)
        rw [show (w1.alloc (.cells #[.int .i64 kind, .string r, .int .i64 a] 44)).heap.size = w1.heap.size + 1 by simp] at hnil
        refine ⟨⟨_, [], by rw [HR.out]; rfl, hnil, by simp, by rw [HR.out]; rfl⟩, ?_⟩
        exact (HB1.out.alloc HB1.out.size _).alloc (by have := HB1.out.size; simp; omega) _
      · obtain ⟨n, ha, hq, hsome⟩ : ∃ n : Nat, a = k ∧ q = ((k + n : Nat) : Int) ∧ lexT (sfx s k) = some (kind, r.data.toList, n) := by
          rcases HX.out.out with h | h
          · exact absurd h.1 (by decide)
          · obtain ⟨_, h1, n, h2, h3⟩ := h
            exact ⟨n, h1, h2, h3⟩
        subst ha
        subst hq
        have hbd := lexT_bd hsome
        have hkn : k + n ≤ s.size := by have hbd := hbd.2; unfold sfx at hbd; rw [List.length_drop, ← ba_size] at hbd; simp at hbd; omega
        have hn1 : 1 ≤ n := hbd.1
        have hk6 : kind ≠ 6 := lexT_kind hsome
        have HD2 := Lib.hid (HD.out.more hlt hsome)
        clear hsome hbd HX
        have HO := Lib.hid (HT1.out.grow (w' := w1) (.cells #[.int .i64 kind, .string r, .int .i64 (k : Int)] 44))
        have hbs2 : w.heap.size ≤ (w1.alloc (.cells #[.int .i64 kind, .string r, .int .i64 (k : Int)] 44)).heap.size := by have := HB1.out.size; simp; omega
        have HB2 := Lib.hid (HB1.out.alloc HB1.out.size (.cells #[.int .i64 kind, .string r, .int .i64 (k : Int)] 44))
        have HSZ : Hid ((w1.alloc (.cells #[.int .i64 kind, .string r, .int .i64 (k : Int)] 44)).heap.size = w1.heap.size + 1) := by show _ = _; simp
        have HS1 := Lib.hid hbs2
        clear hbs2
        go_wp2_with (at_builtin; refine wpList_append_Tok (w1.alloc (.cells #[.int .i64 kind, .string r, .int .i64 (k : Int)] 44)) rfl _ _ rfl w.heap.size _ L.length (tokVs L) _ _ _ rfl rfl rfl HO.out rfl (by rw [HSZ.out]; rfl) HL1.out HS1.out ?_; intro v' w2 hb2 hg2 hbl2 _hv; obtain ⟨c0, _, _⟩ := three_cells (HT1.out.off hg2 (Go.heap_alloc_new w1 _)); have h3 := Lib.hid (Toks.of hb2); have HB3 := Lib.hid (HB2.out.trans hbl2); clear hb2 hg2 hbl2)
        exact ⟨⟨k + n, _, hkn, by go_num, by rw [List.length_append, List.length_singleton]; omega, h3.out, HB3.out, HD2.out⟩, by simp [intOf]; omega⟩
    · have HR := Lib.hid (res_some h120 (HD.out.done (by omega)))
      go_wp2_with fail
      refine (lex_end s k _ hs (by omega) (by omega)).mono ?_
      rintro e w1 ⟨rfl, b1⟩
      have HT1 := Lib.hid (HT.out.kept b1)
      have HB1 := Lib.hid (below_trans HB.out b1)
      clear b1
      have HO := Lib.hid (HT1.out.grow (w' := w1) (.cells #[.int .i64 6, .string ⟨#[]⟩, .int .i64 (k : Int)] 44))
      have hbs2 : w.heap.size ≤ (w1.alloc (.cells #[.int .i64 6, .string ⟨#[]⟩, .int .i64 (k : Int)] 44)).heap.size := by have := HB1.out.size; simp; omega
      have HB2 := Lib.hid (HB1.out.alloc HB1.out.size (.cells #[.int .i64 6, .string ⟨#[]⟩, .int .i64 (k : Int)] 44))
      have HSZ : Hid ((w1.alloc (.cells #[.int .i64 6, .string ⟨#[]⟩, .int .i64 (k : Int)] 44)).heap.size = w1.heap.size + 1) := by show _ = _; simp
      have HS1 := Lib.hid hbs2
      clear hbs2
      go_wp2_with (at_builtin; refine wpList_append_Tok (w1.alloc (.cells #[.int .i64 6, .string ⟨#[]⟩, .int .i64 (k : Int)] 44)) rfl _ _ rfl w.heap.size _ L.length (tokVs L) _ _ _ rfl rfl rfl HO.out rfl (by rw [HSZ.out]; rfl) HL1.out HS1.out ?_; intro v' w2 hb2 hg2 hbl2 _hv; obtain ⟨c0, _, _⟩ := three_cells (HT1.out.off hg2 (Go.heap_alloc_new w1 _)); have h3 := Lib.hid (Toks.of hb2); have HB3 := Lib.hid (HB2.out.trans hbl2); clear hb2 hg2 hbl2)
      go_ret2
      exact ⟨⟨_, _, by rw [HR.out]; rfl, h3.out, by rw [List.length_append, List.length_singleton]; omega, by rw [HR.out]; rfl⟩, HB3.out⟩

end Go.Proofs.YtkoagpeeohmokaaDoor
