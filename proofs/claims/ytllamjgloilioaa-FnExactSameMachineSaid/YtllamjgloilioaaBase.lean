/- Small lemmas that all texts of this seat share; nothing here speaks of one function. -/
import Derived.Test.YtllamjgloilioaaProg
import Derived.WalkKit
import Derived.WalkLawsBesides
import Derived.WalkSpells
import Derived.Deep.QuietTactic
import Derived.BigQuiet
import Derived.Lib.Hide
import Derived.Lib.MinMax
import Derived.Below
import Derived.ChangeSame
namespace Go.Proofs.Ytllamjgloilioaa
open Go.RowKit Go.WideShapes Go.ChangeShapes

section
variable {H : Type} {enc : TypeId × Value → H} {P : Program}

theorem post_of_below {f : Func} {s : ChangeSpec} {apart fresh handsOn again : Bool} {W W' : World} {args : Array Value} {v : Value} {ds gs : List (DataW H)} {before pa pv : List MemPlace}
    (hW : DataW.Whole enc P f.params.toList s.vars apart W args.toList ds gs before)
    (hres : ∀ (b : Nat) (sp : Nat → Bool) (hd : Bool), DataW.TrodAll enc P W' b sp hd f.resultTypes.toList (v.resultList f.resultTypes.size) (s.fn H (ds ++ gs)).results [])
    (hargs : ∀ sp : Nat → Bool, (∀ p ∈ before, sp p.block = true) → DataW.TrodAll enc P W' 0 sp true f.params.toList args.toList (s.fn H (ds ++ gs)).args pa)
    (hvars : ∀ sp : Nat → Bool, (∀ p ∈ before, sp p.block = true) → DataW.TrodVars enc P W' sp s.vars (s.fn H (ds ++ gs)).vars pv)
    (hps : before = pa ++ pv) (hb : Below W.heap.size W W')
    (hok : ∀ (j : Nat) (t : TypeId) (r : Value), f.resultTypes[j]? = some t → (v.resultList f.resultTypes.size)[j]? = some r → Value.okWide P W' .any 0 t r) :
    s.post enc P f apart fresh handsOn again W args v W' := by
  have hlt : ∀ p ∈ before, p.block < W.heap.size := fun p hp => hW.lt p hp
  have hold : ∀ p ∈ before, (fun b => decide (b < W.heap.size)) p.block = true := fun p hp => by simpa using hlt p hp
  refine ⟨ds, gs, before, [], pa, pv, hW, hres _ _ _, hargs _ hold, hvars _ hold, World.keptBut_mono (fun p hp => ⟨hp, ?_⟩) (hb.frame (· ∈ before)), fun _ => ?_⟩
  · rw [hps, List.mem_append] at hp
    exact Or.inr hp
  · obtain ⟨_, _, _, _, _, hz, hn⟩ := hW
    refine ⟨hok, _, _, ([] ++ pa) ++ pv, ⟨[] ++ pa, pv, trodAll_append (hargs _ (fun _ _ => rfl)) (hres _ _ _), hvars _ (fun _ _ => rfl), rfl, ?_, ?_⟩, ?_⟩
    · intro b off hp
      have hin : MemPlace.cell b off ∈ before := by rw [hps]; simpa using hp
      rw [hb.frozen (hlt _ hin)]
      exact hz b off hin
    · intro ha
      have := hn ha
      rw [hps] at this
      simpa using this
    · intro p hp _
      rw [hps]
      simpa using hp
end

theorem ret_bool {a b : Bool} (h : a = b) : Ending.returned (.bool a) = .returned (.bool b) := by rw [h]

theorem ret_int {k : IntKind} {a b : Int} (h : a = b) : Ending.returned (.int k a) = .returned (.int k b) := by rw [h]

theorem ret_str {a b : ByteArray} (h : a = b) : Ending.returned (.string a) = .returned (.string b) := by rw [h]

/-- The two cases of an equality of numbers, each test of Go's in its own spelling. -/

theorem eqForms (a b : Int) : ((a == b) = true ∧ (a != b) = false ∧ Hid (a = b)) ∨ ((a == b) = false ∧ (a != b) = true ∧ Hid (¬ a = b)) := by
  by_cases h : a = b
  · exact .inl ⟨by simp [h], by simp [h], h⟩
  · exact .inr ⟨by simp [h], by simp [h], h⟩

theorem ltForms (a b : Int) : (decide (a < b) = true ∧ a < b) ∨ (decide (a < b) = false ∧ ¬ a < b) := by
  by_cases h : a < b
  · exact .inl ⟨by simp [h], h⟩
  · exact .inr ⟨by simpa using h, h⟩

/-- The bytes of a string from a place on. -/
def sfx (s : ByteArray) (k : Nat) : List UInt8 := s.data.toList.drop k

theorem sfx_lt {s : ByteArray} {k : Nat} (h : k < s.size) : sfx s k = s[k] :: sfx s (k+1) := by
  unfold sfx; rw [List.drop_eq_getElem_cons (by simpa using h)]; rfl

theorem sfx_ge {s : ByteArray} {k : Nat} (h : s.size ≤ k) : sfx s k = [] := by
  unfold sfx; rw [List.drop_eq_nil_iff]; simpa using h

theorem sfx_zero (s : ByteArray) : sfx s 0 = s.data.toList := rfl

theorem ba_ext {a b : ByteArray} (h : a.data.toList = b.data.toList) : a = b := by
  cases a; cases b; congr; exact Array.toList_inj.1 h

theorem ba_size (r : ByteArray) : r.size = r.data.toList.length := by simp

theorem ba_app (a b : ByteArray) : (a ++ b).data.toList = a.data.toList ++ b.data.toList := by simp [ByteArray.data_append]

theorem ba_toList (s : ByteArray) : s.toList = s.data.toList := by
  have h : ∀ (n i : Nat) (r : List UInt8), s.size - i = n → ByteArray.toList.loop s i r = r.reverse ++ s.data.toList.drop i := by
    intro n
    induction n with
    | zero =>
      intro i r hi
      unfold ByteArray.toList.loop
      rw [if_neg (by omega), List.drop_eq_nil_of_le (by simp; exact Nat.le_of_sub_eq_zero hi)]; simp
    | succ n ih =>
      intro i r hi
      unfold ByteArray.toList.loop
      have hlt : i < s.size := by omega
      rw [if_pos hlt, ih (i + 1) _ (by omega), List.drop_eq_getElem_cons (i := i) (by simpa using hlt)]
      have hg : s.get! i = s.data[i] := by
        show s.data[i]! = _
        exact getElem!_pos s.data i hlt
      rw [hg]; simp
  have := h s.size 0 [] (by omega)
  simpa [ByteArray.toList] using this

theorem empty_of {s : ByteArray} (h : s.size = 0) : s.toList.isEmpty = true := by
  rw [ba_toList, List.isEmpty_iff]; exact List.eq_nil_of_length_eq_zero (by rw [← ba_size]; exact h)

theorem nonempty_of {s : ByteArray} (h : ¬ s.size = 0) : s.toList.isEmpty = false := by
  rw [ba_toList, List.isEmpty_eq_false_iff]; intro e; apply h; rw [ba_size, e]; rfl

/-- A string is a given text, or the test says no. -/
theorem strCase (s : ByteArray) (l : List UInt8) : s = ⟨l.toArray⟩ ∨ ((s.toList == l) = false ∧ Hid (s.data.toList ≠ l)) := by
  by_cases h : s.data.toList = l
  · left; apply ba_ext; simp [h]
  · right; exact ⟨by rw [ba_toList]; simp [h], h⟩

theorem lt_of_cell {w : World} {a : Addr} {u : Value} (h : w.cell? a = some u) : a.block < w.heap.size := by
  rcases Nat.lt_or_ge a.block w.heap.size with hlt | hge
  · exact hlt
  · simp [World.cell?, Array.getElem?_eq_none hge] at h

theorem below_refl (w : World) : Below w.heap.size w w := Below.refl _ _

theorem below_drewN (w : World) (n : Nat) : Below w.heap.size w (w.drewN n) := ⟨rfl, rfl, rfl, Nat.le_refl _, fun _ _ => rfl⟩

theorem below_trans {a b c : World} (h : Below a.heap.size a b) (k : Below b.heap.size b c) : Below a.heap.size a c := h.trans (k.mono h.size)
end Go.Proofs.Ytllamjgloilioaa
