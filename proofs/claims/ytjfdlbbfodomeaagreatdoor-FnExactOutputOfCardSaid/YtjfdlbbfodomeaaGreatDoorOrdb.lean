/- orderable and l03Level: both sides. -/
import Derived.Test.YtjfdlbbfodomeaaGreatDoorSubsL
import Derived.Test.YtjfdlbbfodomeaaGreatDoorNames
import Derived.Test.YtjfdlbbfodomeaaGreatDoorForms
namespace Go.Proofs.YtjfdlbbfodomeaaGreatDoor
open Go.RowKit
set_option linter.unusedVariables false

theorem StrsAt.take {w : World} {B : Nat} {A : Option Addr} {n c : Nat} {xs : List ByteArray} (h : StrsAt w B (.slice A n c) xs) {m : Nat} (hm : m ≤ xs.length) : StrsAt w B (.slice A m c) (xs.take m) := by
  obtain ⟨A', c', e, hc, hr⟩ := h
  injection e with e1 e2 e3
  subst e1 e3
  have hl : (xs.take m).length = m := by rw [List.length_take]; omega
  refine ⟨A, c, by rw [hl], by omega, by simp [strVs], fun hp => ?_⟩
  rw [hl] at hp
  obtain ⟨ad, ha, hb, hu⟩ := hr.2 (by omega)
  refine ⟨ad, ha, hb, fun j u hj => hu j u ?_⟩
  unfold strVs at hj ⊢
  rw [List.map_take] at hj
  have hj2 : j < m := by
    rcases Nat.lt_or_ge j m with h | h
    · exact h
    · rw [List.getElem?_eq_none (by simp; omega)] at hj; cases hj
  rwa [List.getElem?_take_of_lt hj2] at hj

/-- impl's orderable and spec's l03Level of a list that ends in l. -/
def ordI (zs : List ByteArray) (l : ByteArray) : Bool := subsOkB (zs ++ [l]) || (decide (l.size = 0) && subsOkB zs)

def ordS (zs : List ByteArray) (l : ByteArray) : Bool := decide (zs.length + 1 ≤ 4) && (subsOkB zs && (decide (l.size = 0) || subOkB l))

theorem ord_eq (zs : List ByteArray) (l : ByteArray) (h : zs.length ≤ 3) : ordI zs l = ordS zs l := by
  unfold ordI ordS subsOkB
  rw [decide_eq_true (show zs.length + 1 ≤ 4 by omega), decide_eq_true (show zs.length ≤ 4 by omega), decide_eq_true (show (zs ++ [l]).length ≤ 4 by simp; omega), List.all_append]
  cases zs.all subOkB <;> cases decide (l.size = 0) <;> simp

theorem ordS_long (zs : List ByteArray) (l : ByteArray) (h : ¬ zs.length ≤ 3) : ordS zs l = false := by
  unfold ordS; rw [decide_eq_false (by omega)]; rfl

theorem orderable_any (v : Value) (zs : List ByteArray) (l : ByteArray) (w : World) (B : Nat) (h : StrsAt w B v (zs ++ [l])) (hl : zs.length ≤ 1048575) (hz : ∀ x ∈ zs ++ [l], x.size ≤ 1048576) :
    Calls Tryz.prog 70 #[v] w fun e w' => e = .returned (.bool (ordI zs l)) ∧ w = w' := by
  have HH := Lib.hid h
  have HZ := Lib.hid hz; clear hz
  obtain ⟨A, c, rfl, hc, hr⟩ := h
  have hlen : (zs ++ [l]).length = zs.length + 1 := by simp
  obtain ⟨ad, rfl, _, hcell⟩ := hr.strAt (k := zs.length) (by omega)
  rw [show (zs ++ [l])[zs.length]'(by omega) = l by simp] at hcell
  have HT : Hid (StrsAt w B (.slice (some ad) zs.length c) zs) := by
    have := HH.out.take (m := zs.length) (by omega)
    rwa [List.take_left] at this
  have HSO := Lib.hid (SubsOk_any _ (zs ++ [l]) w B HH.out (by omega) HZ.out)
  have HSZ := Lib.hid (SubsOk_any _ zs w B HT.out (by omega) (fun x hx => HZ.out x (List.mem_append.2 (.inl hx))))
  clear hr HH HT HZ
  rw [hlen] at HSO hc ⊢
  clear hlen
  have HV : Hid (ordI zs l = (subsOkB (zs ++ [l]) || (decide (l.size = 0) && subsOkB zs))) := rfl
  generalize subsOkB (zs ++ [l]) = S1 at *
  generalize subsOkB zs = S2 at *
  generalize hm : zs.length = m at *
  clear hm
  have w1 : IntKind.i64.wrap ((m : Int) + 1 - 1) = m := by rw [Int.add_sub_cancel]; exact IntWalk.i64_in _ (by omega)
  have j0 : (0 : Int) ≤ m := by omega
  have j1 : (m : Int) < (m : Int) + 1 := by omega
  have hp : (0 : Int) < ((m + 1 : Nat) : Int) := by omega
  cases S1
  · rcases emptyForms l with ⟨e1, e2, e3, e4⟩ | ⟨e1, e2, e3, e4⟩
    · go_enter Tryz.func70, Tryz.ntmps70
      go_wp2_with fail
      refine HSO.out.mono ?_
      rintro e w' ⟨rfl, rfl⟩
      go_wp2_with fail
      refine HSZ.out.mono ?_
      rintro e w' ⟨rfl, rfl⟩
      go_wp2_with fail
      go_ret
      exact ⟨ret_bool (by rw [HV.out, e4.out]; simp), rfl⟩
    · go_enter Tryz.func70, Tryz.ntmps70
      go_wp2_with fail
      refine HSO.out.mono ?_
      rintro e w' ⟨rfl, rfl⟩
      go_wp2_with fail
      go_ret
      exact ⟨ret_bool (by rw [HV.out, e4.out]; simp), rfl⟩
  · go_enter Tryz.func70, Tryz.ntmps70
    go_wp2_with fail
    refine HSO.out.mono ?_
    rintro e w' ⟨rfl, rfl⟩
    go_wp2_with fail
    go_ret
    exact ⟨ret_bool (by rw [HV.out]; simp), rfl⟩

theorem l03Level_any (v : Value) (zs : List ByteArray) (l : ByteArray) (w : World) (B : Nat) (h : StrsAt w B v (zs ++ [l])) (hl : zs.length ≤ 1048575) (hz : ∀ x ∈ zs ++ [l], x.size ≤ 1048576) :
    Calls Tryz.prog 67 #[v] w fun e w' => e = .returned (.bool (ordS zs l)) ∧ w = w' := by
  have HH := Lib.hid h
  have HZ := Lib.hid hz; clear hz
  obtain ⟨A, c, rfl, hc, hr⟩ := h
  have hlen : (zs ++ [l]).length = zs.length + 1 := by simp
  obtain ⟨ad, rfl, _, hcell⟩ := hr.strAt (k := zs.length) (by omega)
  rw [show (zs ++ [l])[zs.length]'(by omega) = l by simp] at hcell
  have HT : Hid (StrsAt w B (.slice (some ad) zs.length c) zs) := by
    have := HH.out.take (m := zs.length) (by omega)
    rwa [List.take_left] at this
  have HSZ := Lib.hid (l02Subs_any _ zs w B HT.out (by omega) (fun x hx => HZ.out x (List.mem_append.2 (.inl hx))))
  have hls : l.size ≤ 1048576 := HZ.out l (by simp)
  clear hr HH HT HZ
  rw [hlen] at hc ⊢
  clear hlen
  have HV : Hid (ordS zs l = (decide (zs.length + 1 ≤ 4) && (subsOkB zs && (decide (l.size = 0) || subOkB l)))) := rfl
  generalize subsOkB zs = S2 at *
  have HSB := Lib.hid (l02Sub_b l w hls)
  generalize subOkB l = S3 at *
  generalize hm : zs.length = m at *
  clear hm
  have w1 : IntKind.i64.wrap ((m : Int) + 1 - 1) = m := by rw [Int.add_sub_cancel]; exact IntWalk.i64_in _ (by omega)
  have j0 : (0 : Int) ≤ m := by omega
  have j1 : (m : Int) < (m : Int) + 1 := by omega
  have hp : (0 : Int) < ((m + 1 : Nat) : Int) := by omega
  by_cases h4 : m + 1 ≤ 4
  · cases S2
    · go_enter Tryz.func67, Tryz.ntmps67
      go_wp2_with (go_at_call 112; go_in)
      refine HSZ.out.mono ?_
      rintro e w' ⟨rfl, rfl⟩
      go_wp2_with fail
      go_ret
      exact ⟨ret_bool (by rw [HV.out]; simp), rfl⟩
    · rcases emptyForms l with ⟨e1, e2, e3, e4⟩ | ⟨e1, e2, e3, e4⟩
      · go_enter Tryz.func67, Tryz.ntmps67
        go_wp2_with (go_at_call 112; go_in)
        refine HSZ.out.mono ?_
        rintro e w' ⟨rfl, rfl⟩
        go_wp2_with fail
        go_ret
        exact ⟨ret_bool (by rw [HV.out, e4.out]; simp; omega), rfl⟩
      · go_enter Tryz.func67, Tryz.ntmps67
        go_wp2_with (go_at_call 112; go_in)
        refine HSZ.out.mono ?_
        rintro e w' ⟨rfl, rfl⟩
        go_wp2_with (go_at_call 117; go_in)
        refine HSB.out.mono ?_
        rintro e w' ⟨rfl, rfl⟩
        go_wp2_with fail
        go_ret
        exact ⟨ret_bool (by rw [HV.out, e4.out, decide_eq_true h4]; simp), rfl⟩
  · go_enter Tryz.func67, Tryz.ntmps67
    go_wp2_with fail
    go_ret
    exact ⟨ret_bool (by rw [HV.out, decide_eq_false h4]; simp), rfl⟩

theorem orderable_nil (A : Option Addr) (c : Nat) (w : World) : Calls Tryz.prog 70 #[.slice A 0 c] w fun e w' => e = .returned (.bool false) ∧ w = w' := by
  go_enter Tryz.func70, Tryz.ntmps70
  go_wp2_with fail
  go_ret
  exact ⟨rfl, rfl⟩

theorem l03Level_nil (A : Option Addr) (c : Nat) (w : World) : Calls Tryz.prog 67 #[.slice A 0 c] w fun e w' => e = .returned (.bool false) ∧ w = w' := by
  go_enter Tryz.func67, Tryz.ntmps67
  go_wp2_with fail
  go_ret
  exact ⟨rfl, rfl⟩

theorem sNameOk_any (s : ByteArray) (w : World) (hs : s.size ≤ 1048576) : Calls Tryz.prog 66 #[.string s] w fun e w' => e = .returned (.bool (nameOk s)) ∧ w = w' := by
  go_enter Tryz.func66, Tryz.ntmps66
  go_wp2_with fail
  refine (l02Name_any s _ hs).mono ?_
  rintro e w1 ⟨rfl, rfl⟩
  go_wp2_with fail
  go_ret
  exact ⟨rfl, rfl⟩

end Go.Proofs.YtjfdlbbfodomeaaGreatDoor
