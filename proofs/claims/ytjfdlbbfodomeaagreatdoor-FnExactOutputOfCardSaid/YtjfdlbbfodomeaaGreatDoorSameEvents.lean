/- SameEvents: an argument that is a list of events, opened; both sides; the walk of the law. -/
import Derived.Test.YtjfdlbbfodomeaaGreatDoorEventsS
namespace Go.Proofs.YtjfdlbbfodomeaaGreatDoor
open Go.RowKit Go.ChangeShapes Go.WideShapes Go.ChangeAt Go.Deep
set_option linter.unusedVariables false

set_option maxRecDepth 20000 in
theorem open_events_trod {H : Type} {enc : TypeId × Value → H} {W : World} {v : Value} {fuel : Nat} {x : DataW H × List MemPlace}
    (hf : DataW.trod enc Tryz.prog W 0 (fun _ => true) true fuel 69 [v] = some x) : ∃ ns, EventsAt W v ns ∧ ns.length ≤ maxLen ∧ ∀ x ∈ ns, x.Ok maxLen := by
  rcases open_slice_fields Tryz.underlying69 Tryz.underlying50 (by kernel_rfl) (by kernel_rfl) hf with ⟨hcs, hx⟩ | ⟨a, len, cap, m, hcs, hl, hm, hmm, hi⟩
  · simp only [List.cons.injEq, and_true] at hcs
    subst hcs
    exact ⟨[], ⟨none, 0, rfl, Nat.le_refl _, fun h => absurd h (by simp)⟩, by simp, fun n hn => by cases hn⟩
  · simp only [List.cons.injEq, and_true] at hcs
    subst hcs
    have hml : len ≤ m := by rw [hmm]; simp; exact hl
    obtain ⟨ns, hlen, hns⟩ := list_of (fun i (n : EventV) => n.In W a i ∧ n.At W ∧ n.Ok maxLen) len (fun i hi' => by
      obtain ⟨n, hf⟩ := hi i (by omega)
      obtain ⟨v0, y0, c0, t0⟩ := hf 0 _ rfl
      obtain ⟨v1, y1, c1, t1⟩ := hf 1 _ rfl
      obtain ⟨v2, y2, c2, t2⟩ := hf 2 _ rfl
      obtain ⟨v3, y3, c3, t3⟩ := hf 3 _ rfl
      obtain ⟨v4, y4, c4, t4⟩ := hf 4 _ rfl
      obtain ⟨p, hp, _, _⟩ := DataW.trod_int Tryz.underlying2 t0
      obtain ⟨s, hs, _, hz⟩ := DataW.trod_string Tryz.underlying9 t1
      obtain ⟨xs, hx, hxl, hxz⟩ := strs_of_trod t2
      obtain ⟨s2, hs2, _, hz2⟩ := DataW.trod_string Tryz.underlying9 t3
      obtain ⟨q, hq, _, _⟩ := DataW.trod_int Tryz.underlying2 t4
      simp only [List.cons.injEq, and_true] at hp hs hs2 hq
      subst hp hs hs2 hq
      refine ⟨⟨p, s, v2, xs, s2, q⟩, fun j u hu => ?_, ⟨hx, trivial⟩, hz, ⟨hxl, hxz⟩, hz2, trivial⟩
      match j, hu with
      | 0, hu => simp [EventV.cells] at hu; subst hu; exact c0
      | 1, hu => simp [EventV.cells] at hu; subst hu; exact c1
      | 2, hu => simp [EventV.cells] at hu; subst hu; exact c2
      | 3, hu => simp [EventV.cells] at hu; subst hu; exact c3
      | 4, hu => simp [EventV.cells] at hu; subst hu; exact c4
      | j + 5, hu => rw [Array.getElem?_eq_none (by simp [EventV.cells])] at hu; cases hu)
    refine ⟨ns, ⟨some a, cap, by rw [hlen], by omega, fun hn => ⟨a, rfl, ?_, fun k h => ⟨(hns k h).1, (hns k h).2.1⟩⟩⟩, by omega, fun n hn => ?_⟩
    · have := lt_of_cell ((hns 0 hn).1 0 _ rfl)
      rwa [block_of_add] at this
    · obtain ⟨k, hk, rfl⟩ := List.getElem_of_mem hn
      exact (hns k hk).2.2

set_option maxRecDepth 20000 in
theorem open_eventsV {H : Type} {enc : TypeId × Value → H} {W : World} {base : Nat} {v : Value} {d : DataW H} {p : List MemPlace} (hk : Value.okWide Tryz.prog W .any base 69 v)
    (h : DataW.Trod enc Tryz.prog W 0 (fun _ => true) true 69 v d p) : ∃ ns : List EventV, EventsAt W v ns ∧ ns.length ≤ maxLen ∧ ∀ x ∈ ns, x.Ok maxLen := by
  obtain ⟨a0, len, cap, rfl⟩ := okWide_slice Tryz.underlying69 hk
  obtain ⟨fuel, hf⟩ := h
  exact open_events_trod hf

theorem toEvents_at (v : Value) (ns : List EventV) (w : World) (h : EventsAt w v ns) (hl : ns.length ≤ 1048576) (hok : ∀ x ∈ ns, x.Ok 1048576) :
    Calls Tryz.prog 52 #[v] w fun e w' => ∃ v' xs, e = .returned v' ∧ Hid (xs.map EventV.dat = ns.map EventV.dat) ∧ EventsAt w' v' xs ∧ Below w.heap.size w w' :=
  (toEventS_any v ns w h hl hok).mono fun e w' ⟨xs, he, hd, ho, hb⟩ => ⟨_, xs, he, hd, ho.at_ (dat_len hd.out) (Nat.le_refl _), hb⟩

end Go.Proofs.YtjfdlbbfodomeaaGreatDoor
