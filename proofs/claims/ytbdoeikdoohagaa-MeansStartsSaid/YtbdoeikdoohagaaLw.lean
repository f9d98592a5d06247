/- The laws' helpers few and some as calls; a training's facts. -/
import Derived.Test.YtbdoeikdoohagaaM2
import Derived.Test.YtbdoeikdoohagaaM1
import Derived.Test.YtbdoeikdoohagaaG13
import Derived.BigQuiet
namespace Go.Proofs.Ytbdoeikdoohagaa.G
open Go.Shelf Go.RowKit Go.Proofs.YtbdoeikdoohagaaW.PrintWords Go.Proofs.YtbdoeikdoohagaaW.PrintLast Go.Proofs.YtbdoeikdoohagaaW.PrintMore
set_option linter.unusedVariables false
set_option linter.unusedSimpArgs false

theorem bdr {w w1 w2 : World} (h : Below w.heap.size w w1) (k : Drawn0 w1 w2) : Below w.heap.size w w2 := below_step h k.below
theorem few_go (A : Option Addr) (c : Nat) (l : List (List Int)) (a : Int) (n : Nat) (ha : a = (n : Int)) (hn : n ≤ 1000) (W : World) (hC : Kd.C kR W A l.length l) (hl : l.length ≤ c) :
    Calls Try.prog 35 #[.slice A l.length c, .int .i64 a] W fun e w' => ∃ A' c', e = .returned (.slice A' (fewV n l).length c') ∧ (fewV n l).length ≤ c' ∧ Kd.C kR w' A' (fewV n l).length (fewV n l) ∧ Below W.heap.size W w' := by
  subst ha
  refine (P.quiverlaw12_few.calls (l.length + 1) A c l n (fewV n l) W hC hl (few_is _ l n hn (Kd.C_max hC) (by omega))).mono ?_
  rintro e w' ⟨v, rfl, ho, hb⟩
  obtain ⟨A', c', rfl, hl', hC'⟩ := Kd.S_reads ho
  exact ⟨A', c', rfl, hl', hC', hb⟩
theorem some_go (A : Option Addr) (c : Nat) (l : List Int) (W : World) (hC : Kd.C (Kd.int .i64) W A l.length l) (hl : l.length ≤ c) :
    Calls Try.prog 36 #[.slice A l.length c] W fun e w' => ∃ A' c', e = .returned (.slice A' (someV l).length c') ∧ (someV l).length ≤ c' ∧ Kd.C (Kd.int .i64) w' A' (someV l).length (someV l) ∧ Below W.heap.size W w' := by
  refine (P.quiverlaw12_some.calls A c l (someV l) W hC hl (some_is l)).mono ?_
  rintro e w' ⟨v, rfl, ho, hb⟩
  obtain ⟨A', c', rfl, hl', hC'⟩ := Kd.R_reads ho
  exact ⟨A', c', rfl, hl', hC', hb⟩
theorem train_go (A : Option Addr) (c : Nat) (l : List (List Int)) (B : Option Addr) (d : Nat) (ds : List Int) (w : World) (hr : Kd.C kR w A l.length l) (hc : l.length ≤ c) (hr' : Kd.C (Kd.int .i64) w B ds.length ds) (hc' : ds.length ≤ d) :
    Calls Try.prog 38 #[.slice A l.length c, .slice B ds.length d] w fun e w' => ∃ A' c', e = .returned (.tuple #[.slice A' (trainR l ds).1.length c', .int .i64 (trainR l ds).2]) ∧ (trainR l ds).1.length ≤ c' ∧ Kd.C kR w' A' (trainR l ds).1.length (trainR l ds).1 ∧ Below w.heap.size w w' := by
  refine (means_Train.calls A c l B d ds (trainR l ds).1 (trainR l ds).2 w hr hc hr' hc' rfl).mono ?_
  rintro e w' ⟨v, rfl, ho, hb⟩
  obtain ⟨A', c', rfl, hl', hC'⟩ := Kd.R_reads ho
  exact ⟨A', c', rfl, hl', hC', hb⟩
theorem start_go' (A : Option Addr) (c : Nat) (l : List (List Int)) (B : Option Addr) (d : Nat) (ds : List Int) (w : World) (hr : Kd.C kR w A l.length l) (hc : l.length ≤ c) (hr' : Kd.C (Kd.int .i64) w B ds.length ds) (hc' : ds.length ≤ d) :
    Calls Try.prog 37 #[.slice A l.length c, .slice B ds.length d] w fun e w' => ∃ A' c', e = .returned (.tuple #[.slice A' (startR l ds).1.length c', .int .i64 (startR l ds).2]) ∧ (startR l ds).1.length ≤ c' ∧ Kd.C kR w' A' (startR l ds).1.length (startR l ds).1 ∧ Below w.heap.size w w' := by
  refine (means_Start.calls A c l B d ds (startR l ds).1 (startR l ds).2 w hr hc hr' hc' rfl).mono ?_
  rintro e w' ⟨v, rfl, ho, hb⟩
  obtain ⟨A', c', rfl, hl', hC'⟩ := Kd.R_reads ho
  exact ⟨A', c', rfl, hl', hC', hb⟩
theorem round_go (A : Option Addr) (c : Nat) (l : List (List Int)) (B : Option Addr) (d : Nat) (m : List (List Int)) (w : World) (hr : Kd.C kR w A l.length l) (hc : l.length ≤ c) (hr' : Kd.C kR w B m.length m) (hc' : m.length ≤ d) :
    Calls Try.prog 45 #[.slice A l.length c, .slice B m.length d] w fun e w' => ∃ A' c', e = .returned (.tuple #[.slice A' (roundR l m).1.length c', .int .i64 (roundR l m).2]) ∧ (roundR l m).1.length ≤ c' ∧ Kd.C kR w' A' (roundR l m).1.length (roundR l m).1 ∧ Below w.heap.size w w' := by
  refine (means_Round.calls A c l B d m (roundR l m).1 (roundR l m).2 w hr hc hr' hc' rfl).mono ?_
  rintro e w' ⟨v, rfl, ho, hb⟩
  obtain ⟨A', c', rfl, hl', hC'⟩ := Kd.R_reads ho
  exact ⟨A', c', rfl, hl', hC', hb⟩
theorem parts_go (A : Option Addr) (c : Nat) (l : List (List Int)) (B : Option Addr) (d : Nat) (m : List (List Int)) (w : World) (hr : Kd.C kR w A l.length l) (hc : l.length ≤ c) (hr' : Kd.C kR w B m.length m) (hc' : m.length ≤ d) :
    Calls Try.prog 44 #[.slice A l.length c, .slice B m.length d] w fun e w' => ∃ A' c', e = .returned (.tuple #[.slice A' (partsR l m).1.length c', .int .i64 (partsR l m).2]) ∧ (partsR l m).1.length ≤ c' ∧ Kd.C (Kd.int .i64) w' A' (partsR l m).1.length (partsR l m).1 ∧ Below w.heap.size w w' := by
  refine (means_Parts.calls A c l B d m (partsR l m).1 (partsR l m).2 w hr hc hr' hc' rfl).mono ?_
  rintro e w' ⟨v, rfl, ho, hb⟩
  obtain ⟨A', c', rfl, hl', hC'⟩ := Kd.R_reads ho
  exact ⟨A', c', rfl, hl', hC', hb⟩
theorem same_go (A : Option Addr) (c : Nat) (a : List (List Int)) (B : Option Addr) (d : Nat) (b : List (List Int)) (w : World) (hr : Kd.C kR w A a.length a) (hc : a.length ≤ c) (hr' : Kd.C kR w B b.length b) (hc' : b.length ≤ d) :
    Calls Try.prog 51 #[.slice A a.length c, .slice B b.length d] w fun e w' => e = .returned (.bool (decide (a = b))) ∧ Drawn0 w w' :=
  means_Same.calls A c a B d b (decide (a = b)) w hr hc hr' hc' rfl
theorem trainR_ne {l : List (List Int)} {ds : List Int} (h : (trainR l ds).2 ≠ 0) : (trainR l ds).1 = [] := by
  unfold trainR at h ⊢
  by_cases e : (startR l ds).2 = 0
  · rw [if_pos e] at h; exact absurd rfl h
  · rw [if_neg e]
theorem trainR_ok {l : List (List Int)} {ds : List Int} (h : (trainR l ds).2 = 0) : (1 ≤ ds.length ∧ ds.length ≤ 6) ∧ (1 ≤ l.length ∧ l.length ≤ 96) ∧ okV (l.getD 0 []).length l ∧ startR l ds = (pick l ds, 0) ∧ (trainR l ds).1 = trainL l 4 (pick l ds) ∧ drawsOk ds = true := by
  unfold trainR at h ⊢
  by_cases e : (startR l ds).2 = 0
  · obtain ⟨h1, h2, h3, h4, h5⟩ := start_ok e
    rw [if_pos e]
    refine ⟨?_, ⟨h2, h3⟩, ok_of_err h4, h5, rfl, h1⟩
    unfold drawsOk at h1
    rw [Bool.and_eq_true] at h1
    exact of_decide_eq_true h1.1
  · rw [if_neg e] at h; exact absurd h e
theorem startR_ne {l : List (List Int)} {ds : List Int} (h : (startR l ds).2 ≠ 0) : (startR l ds).1 = [] := by
  unfold startR at h ⊢
  by_cases h1 : drawsOk ds = true
  · rw [if_pos h1] at h ⊢
    by_cases h2 : manyErr l = 0
    · rw [if_pos h2] at h ⊢
      by_cases h3 : allErr l = 0
      · rw [if_pos h3] at h; exact absurd rfl h
      · rw [if_neg h3]
    · rw [if_neg h2]
  · rw [if_neg h1]
theorem partsR_ne {c l : List (List Int)} (h : (partsR c l).2 ≠ 0) : (partsR c l).1 = [] := by
  unfold partsR at h ⊢
  by_cases h1 : centErr c = 0
  · rw [if_pos h1] at h ⊢
    by_cases h2 : manyErr l = 0
    · rw [if_pos h2] at h ⊢
      by_cases h3 : allErr (c ++ l) = 0
      · rw [if_pos h3] at h; exact absurd rfl h
      · rw [if_neg h3]
    · rw [if_neg h2]
  · rw [if_neg h1]

end Go.Proofs.Ytbdoeikdoohagaa.G
