/- The scan's own words, and what off does: over the seat's translation, for every scan that reads as one. -/
import Derived.Test.YtngjaaldidmgjaaG1
import Derived.RegionTactic
import Derived.ChangeAlike
import Derived.Deep.QuietTactic
import Derived.BigQuiet
import Derived.WalkSpells
import Derived.Handy
namespace Go.Proofs.Ytngjaaldidmgjaa.G
open Go.RowKit Go.Proofs.YtngjaaldidmgjaaW.PrintWords Go.Proofs.YtngjaaldidmgjaaW.PrintLast Go.Proofs.YtngjaaldidmgjaaW.PrintMore
set_option linter.unusedVariables false
set_option linter.unusedSimpArgs false

/-- The scan at block g: its bytes bs in a row of their own, its place, whether it is bad. -/
def IsScan (w : World) (base : Nat) (ok : Nat → Prop) (g : Nat) (bs : List Int) (pl : Nat) (bad : Bool) : Prop :=
  ∃ v, w.heap[g]? = some (.cells #[v, .int .i64 pl, .bool bad] 131 (0, 0)) ∧ base ≤ g ∧ ok g ∧ Kd.R (Kd.int .u8) 5 w base ok v bs ∧ pl ≤ bs.length ∧ (∀ x ∈ bs, 0 ≤ x ∧ x ≤ 255) ∧ bs.length ≤ 140737488355327

theorem IsScan.step {w w1 : World} {base : Nat} {ok : Nat → Prop} {g : Nat} {bs : List Int} {pl : Nat} {bad : Bool} (h : IsScan w base ok g bs pl bad)
    (hm : ∀ k, ok k → k < w.heap.size → w1.heap[k]? = w.heap[k]?) : IsScan w1 base ok g bs pl bad := by
  obtain ⟨v, hb, hg, hok, hr, h2⟩ := h
  exact ⟨v, (hm g hok (blk_lt hb)).trans hb, hg, hok, Kd.R_step hr hm, h2⟩
theorem IsScan.mono {w : World} {base : Nat} {ok ok' : Nat → Prop} {g : Nat} {bs : List Int} {pl : Nat} {bad : Bool} (h : IsScan w base ok g bs pl bad)
    (hm : ∀ k, ok k → ok' k) : IsScan w base ok' g bs pl bad := by
  obtain ⟨v, hb, hg, hok, hr, h2⟩ := h
  exact ⟨v, hb, hg, hm _ hok, Kd.R_mono hr hm, h2⟩
theorem IsScan.lower {w : World} {base base' : Nat} {ok : Nat → Prop} {g : Nat} {bs : List Int} {pl : Nat} {bad : Bool} (h : IsScan w base ok g bs pl bad)
    (hm : base' ≤ base) : IsScan w base' ok g bs pl bad := by
  obtain ⟨v, hb, hg, hok, hr, h2⟩ := h
  exact ⟨v, hb, Nat.le_trans hm hg, hok, Kd.R_lower hr hm, h2⟩
theorem IsScan.bound {w : World} {base : Nat} {ok : Nat → Prop} {g : Nat} {bs : List Int} {pl : Nat} {bad : Bool} (h : IsScan w base ok g bs pl bad) :
    IsScan w base (fun k => ok k ∧ base ≤ k ∧ k < w.heap.size) g bs pl bad := by
  obtain ⟨v, hb, hg, hok, hr, h2⟩ := h
  exact ⟨v, hb, hg, ⟨hok, hg, blk_lt hb⟩, Kd.R_mono (Kd.R_bound hr) (fun k hk => ⟨hk.1, hk.2.1, hk.2.2.1⟩), h2⟩

theorem IsScan.setBad {w : World} {base : Nat} {ok : Nat → Prop} {g : Nat} {bs : List Int} {pl : Nat} {bad : Bool} (h : IsScan w base ok g bs pl bad) (b : Bool) :
    IsScan (w.setCell ⟨g, 2, none⟩ (.bool b)) base ok g bs pl b := by
  obtain ⟨v, hb, hg, hok, hr, h2⟩ := h
  exact ⟨v, by simpa using blk_set hb 2 (.bool b), hg, hok, Kd.R_set hr hb (by decide) 2 _, h2⟩
theorem IsScan.setPl {w : World} {base : Nat} {ok : Nat → Prop} {g : Nat} {bs : List Int} {pl : Nat} {bad : Bool} (h : IsScan w base ok g bs pl bad) (p : Nat) (hp : p ≤ bs.length) :
    IsScan (w.setCell ⟨g, 1, none⟩ (.int .i64 p)) base ok g bs p bad := by
  obtain ⟨v, hb, hg, hok, hr, h2⟩ := h
  exact ⟨v, by simpa using blk_set hb 1 (.int .i64 p), hg, hok, Kd.R_set hr hb (by decide) 1 _, hp, h2.2⟩
theorem IsScan.drew {w : World} {base : Nat} {ok : Nat → Prop} {g : Nat} {bs : List Int} {pl : Nat} {bad : Bool} (h : IsScan w base ok g bs pl bad) : IsScan w.drew base ok g bs pl bad := h
theorem IsScan.drewN {w : World} {base : Nat} {ok : Nat → Prop} {g : Nat} {bs : List Int} {pl : Nat} {bad : Bool} (h : IsScan w base ok g bs pl bad) (m : Nat) : IsScan (w.drewN m) base ok g bs pl bad := h
theorem IsScan.fr {S : Nat → Prop} {w w1 : World} {base : Nat} {ok : Nat → Prop} {g : Nat} {bs : List Int} {pl : Nat} {bad : Bool} (h : IsScan w base ok g bs pl bad) (hf : Fr S w w1) (hs : ∀ k, ok k → ¬ S k) : IsScan w1 base ok g bs pl bad :=
  h.step (fun k ho hk => hf.block hk (hs k ho))
theorem IsScan.lt {w : World} {base : Nat} {ok : Nat → Prop} {g : Nat} {bs : List Int} {pl : Nat} {bad : Bool} (h : IsScan w base ok g bs pl bad) : g < w.heap.size := by
  obtain ⟨v, hb, _⟩ := h
  exact blk_lt hb

set_option maxHeartbeats 1000000 in
set_option maxRecDepth 100000 in
theorem off_bad (base : Nat) (ok : Nat → Prop) (g : Nat) (bs : List Int) (pl : Nat) (n : Int) (f : Value) (w : World) (hI : IsScan w base ok g bs pl true) :
    Calls Try.prog 103 #[.pointer (some ⟨g, 0, none⟩), .int .i64 n, f] w fun e w' => e = .returned (.tuple #[]) ∧ w = w' := by
  obtain ⟨v, hb, hg, hok, hr, h2⟩ := hI
  have hc2 := blk_cell hb 2
  have q1 : w.cell? ⟨g, 2, none⟩ = some (.bool true) := hc2.trans rfl
  clear hc2 hb
  go_enter Try.func103, Try.ntmps103
  go_wp2_with fail
  go_returns
  exact ⟨rfl, rfl⟩

set_option maxHeartbeats 1000000 in
set_option maxRecDepth 100000 in
theorem off_no (base : Nat) (ok : Nat → Prop) (g : Nat) (bs : List Int) (pl : Nat) (n : Int) (f : Value) (w : World) (hI : IsScan w base ok g bs pl false) (hn : n < 0 ∨ (bs.length : Int) - pl < n) :
    Calls Try.prog 103 #[.pointer (some ⟨g, 0, none⟩), .int .i64 n, f] w fun e w' => e = .returned (.tuple #[]) ∧ IsScan w' base ok g bs pl true ∧ Fr (· = g) w w' := by
  have HI := Aside0.mk hI
  obtain ⟨v, hb, hg, hok, hr, h2, h3, h4⟩ := hI
  obtain ⟨A, c, rfl, hlc, hC⟩ := Kd.R_reads hr
  have q0 : w.cell? ⟨g, 0, none⟩ = some (.slice A bs.length c) := (blk_cell hb 0).trans rfl
  have q1 : w.cell? ⟨g, 1, none⟩ = some (.int .i64 pl) := (blk_cell hb 1).trans rfl
  have q2 : w.cell? ⟨g, 2, none⟩ = some (.bool false) := (blk_cell hb 2).trans rfl
  have f2 : w.frozen? ⟨g, 2, none⟩ = false := blk_frozen hb 2
  clear hb hr hC h3
  by_cases h0 : n < 0
  · have e0 : decide (n < (0 : Int)) = true := decide_eq_true h0
    go_enter Try.func103, Try.ntmps103
    go_wp2_with fail
    go_quiet (fail)
    go_wp2_with fail
    go_returns
    exact ⟨rfl, (HI.out.drewN _).setBad true, ((Fr.refl (· = g) w).drewN _).setCell (p := ⟨g, 2, none⟩) (.inl rfl) _⟩
  · have h0' : 0 ≤ n := by omega
    have e0 : decide (n < (0 : Int)) = false := decide_eq_false h0
    have e1 : (bs.length : Int) - pl < n := by omega
    have e2 : decide ((bs.length : Int) - pl < n) = true := decide_eq_true e1
    clear hn h0
    go_enter Try.func103, Try.ntmps103
    go_wp2_with fail
    go_quiet (fail)
    go_wp2_with fail
    go_returns
    exact ⟨rfl, (HI.out.drewN _).setBad true, ((Fr.refl (· = g) w).drewN _).setCell (p := ⟨g, 2, none⟩) (.inl rfl) _⟩

set_option maxHeartbeats 2000000 in
set_option maxRecDepth 100000 in
theorem off_yes (base : Nat) (ok : Nat → Prop) (g : Nat) (bs : List Int) (pl n : Nat) (K : FuncId) (p : Value) (w : World) (R : World → Prop) (hI : IsScan w base ok g bs pl false) (hn : n ≤ bs.length - pl)
    (he : ∀ (xs : Array Value) (W : World), Sem.run Try.prog (callFunc K xs) W = .ok (.enter K xs) W)
    (H : ∀ A w', IsScan w' base ok g bs (pl + n) false → Fr (· = g) w w' → w'.heap.size = w.heap.size → Kd.C (Kd.int .u8) w' A n ((bs.drop pl).take n) → (∀ ad, A = some ad → ∃ cs, w'.heap[ad.block]? = some (.cells cs 5 (0, 0))) →
      Calls Try.prog K #[.slice A n n, p] w' fun e w'' => e = .returned (.tuple #[]) ∧ R w'') :
    Calls Try.prog 103 #[.pointer (some ⟨g, 0, none⟩), .int .i64 n, .func (.func K) #[] #[p]] w fun e w' => e = .returned (.tuple #[]) ∧ R w' := by
  have HI := Aside0.mk hI
  obtain ⟨v, hb, hg, hok, hr, h2, h3, h4⟩ := hI
  obtain ⟨A, c, rfl, hlc, hC⟩ := Kd.R_reads hr
  have hown := hr.2
  obtain ⟨inner, hown, hrep⟩ := hown
  have HM0 : ∀ m, IsScan ((w.drewN m).setCell ⟨g, 1, none⟩ (.int .i64 ((pl : Int) + n))) base ok g bs (pl + n) false := fun m => (HI.out.drewN m).setPl (pl + n) (by omega)
  have HG0 : ∀ m, Fr (· = g) w ((w.drewN m).setCell ⟨g, 1, none⟩ (.int .i64 ((pl : Int) + n))) := fun m => ((Fr.refl (· = g) w).drewN m).setCell (p := ⟨g, 1, none⟩) (.inl rfl) _
  have HZ0 : ∀ m, ((w.drewN m).setCell ⟨g, 1, none⟩ (.int .i64 ((pl : Int) + n))).heap.size = w.heap.size := fun m => by simp [World.setCell, World.drewN]
  have e0 : decide ((n : Int) < (0 : Int)) = false := decide_eq_false (by omega)
  have e2 : decide ((bs.length : Int) - pl < (n : Int)) = false := decide_eq_false (by omega)
  have q1 : w.cell? ⟨g, 1, none⟩ = some (.int .i64 pl) := (blk_cell hb 1).trans rfl
  have q2 : w.cell? ⟨g, 2, none⟩ = some (.bool false) := (blk_cell hb 2).trans rfl
  have f2 : w.frozen? ⟨g, 1, none⟩ = false := blk_frozen hb 1
  have q0 : w.cell? ⟨g, 0, none⟩ = some (.slice A bs.length c) := (blk_cell hb 0).trans rfl
  have hne : ∀ k, (Value.slice A bs.length c).ownBlock = some k → k ≠ g := fun k hk e => by
    have := Kd.R_ne hr hb (by decide)
    rw [hk, e] at this
    exact this rfl
  have hty : ∀ m ad, A = some ad → ∃ cs, ((w.drewN m).setCell ⟨g, 1, none⟩ (.int .i64 ((pl : Int) + n))).heap[ad.block]? = some (.cells cs 5 (0, 0)) := fun m ad hA => by
    subst hA
    obtain ⟨cs, hcs⟩ := own_typed hown ad.block rfl
    exact ⟨cs, (Below.heap_setCell _ _ _ _ (hne _ rfl)).trans hcs⟩
  have hCm : ∀ m, Kd.C (Kd.int .u8) ((w.drewN m).setCell ⟨g, 1, none⟩ (.int .i64 ((pl : Int) + n))) A bs.length bs := fun m => by
    obtain ⟨A', c', e, _, h⟩ := Kd.R_reads (Kd.R_set hr hb (by decide) 1 (.int .i64 ((pl : Int) + n)))
    injection e with e1 e2 e3
    subst e1
    exact Kd.C_below h (by constructor <;> simp [World.setCell, World.drewN])
  have hform : A = none ∨ ∃ gd, A = some ⟨gd, 0, none⟩ := by
    rcases hown.2 with ⟨e, _⟩ | ⟨gd, _, _, e, _⟩
    · injection e with e1; exact .inl e1
    · injection e with e1; exact .inr ⟨gd, e1⟩
  have hcm : c ≤ 9223372036854775807 := by
    rcases hown.2 with ⟨e, _⟩ | ⟨gd, cap, cur, e, _, _, _, hcm, _⟩
    · injection e with _ _ e1; omega
    · injection e with _ _ e1; unfold maxLen at hcm; omega
  have hnil : A = none → bs = [] := by
    rintro rfl
    rcases Nat.eq_zero_or_pos bs.length with h0 | h0
    · exact List.length_eq_zero_iff.1 h0
    · obtain ⟨ad, e, _⟩ := hC.2.2 h0
      cases e
  have HH := Aside0.mk H
  have Hty := Aside0.mk hty
  have HCm := Aside0.mk hCm
  have HM := Aside0.mk HM0
  have HG := Aside0.mk HG0
  have HZ := Aside0.mk HZ0
  clear hb hr h3 hrep hown hC hne hty hCm H HM0 HG0 HZ0
  rcases hform with rfl | ⟨gd, rfl⟩
  · have := hnil rfl
    subst this
    obtain rfl : pl = 0 := by simpa using h2
    obtain rfl : n = 0 := by simpa using hn
    clear hnil
    go_enter Try.func103, Try.ntmps103
    go_wp2_with fail
    go_quiet (fail)
    go_wp2_with fail
    go_quiet (fail)
    go_wp2_with fail
    refine (HH.out none _ (HM.out _) (HG.out _) (HZ.out _) ⟨rfl, Nat.zero_le _, fun h => absurd h (Nat.lt_irrefl 0)⟩ (fun ad h => by cases h)).mono ?_
    · rintro e w' ⟨rfl, hR⟩
      have HR := Aside0.mk hR
      clear hR
      go_wp2_with fail
      go_returns
      exact ⟨rfl, HR.out⟩
  · clear hnil
    by_cases hz : n = 0
    · subst hz
      go_enter Try.func103, Try.ntmps103
      go_wp2_with fail
      go_quiet (fail)
      go_wp2_with fail
      go_quiet (fail)
      go_wp2_with fail
      have HM1 := HM.out
      have HG1 := HG.out
      have HZ1 := HZ.out
      have Hty1 := Hty.out
      simp only [Int.natCast_zero, Int.add_zero] at HM1 HG1 HZ1 Hty1
      refine (HH.out _ _ (HM1 _) (HG1 _) (HZ1 _) ⟨by simp, Nat.zero_le _, fun h => absurd h (Nat.lt_irrefl 0)⟩ (Hty1 _)).mono ?_
      · clear HM1 HG1 HZ1 Hty1
        rintro e w' ⟨rfl, hR⟩
        have HR := Aside0.mk hR
        clear hR
        go_wp2_with fail
        go_returns
        exact ⟨rfl, HR.out⟩
    · have hz' : 0 < n := Nat.pos_of_ne_zero hz
      go_enter Try.func103, Try.ntmps103
      go_wp2_with fail
      go_quiet (fail)
      go_wp2_with fail
      go_quiet (fail)
      go_wp2_with fail
      refine (HH.out _ _ (HM.out _) (HG.out _) (HZ.out _) ?_ ?_).mono ?_
      · have h5 := fun m => C_sub (lo := pl) (n := n) (HCm.out m) (by omega)
        simp only [add_plain, Kd.int, Kd.scalar, Nat.mul_one] at h5
        exact h5 _
      · intro ad h
        injection h with h
        subst h
        exact Hty.out _ ⟨gd, 0, none⟩ rfl
      · rintro e w' ⟨rfl, hR⟩
        have HR := Aside0.mk hR
        clear hR
        go_wp2_with fail
        go_returns
        exact ⟨rfl, HR.out⟩

end Go.Proofs.Ytngjaaldidmgjaa.G
