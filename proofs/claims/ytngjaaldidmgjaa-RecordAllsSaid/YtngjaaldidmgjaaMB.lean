/- The scan's own words, and what off does: over the seat's translation, for every scan that reads as one. What a scan's methods tell: Num, Int, Bytes, Left, Place, Bad, and Read, over the seat's translation. Contracts of a scan's methods (Num, Int, Bytes, Left, Place, Bad) and of Read, over the seat's translation. Contracts of Read, Int, Left, Place, Bad, over the seat's translation. -/
import Derived.Test.YtngjaaldidmgjaaMA
import Derived.RegionTactic
import Derived.ChangeAlike
import Derived.Deep.QuietTactic
import Derived.BigQuiet
import Derived.WalkSpells
import Derived.Handy
import Derived.Laws.BitsLemmas
namespace Go.Proofs.Ytngjaaldidmgjaa.G

section
open Go.RowKit Go.Proofs.YtngjaaldidmgjaaW.PrintWords Go.Proofs.YtngjaaldidmgjaaW.PrintLast Go.Proofs.YtngjaaldidmgjaaW.PrintMore
set_option linter.unusedVariables false
set_option linter.unusedSimpArgs false

/-- The scan at block g: its bytes bs in a row of their own, its place, whether it is bad. -/
def IsScan (w : World) (base : Nat) (ok : Nat → Prop) (g : Nat) (bs : List Int) (pl : Nat) (bad : Bool) : Prop :=
  ∃ v, w.heap[g]? = some (.cells #[v, .int .i64 pl, .bool bad] 131 (0, 0)) ∧ base ≤ g ∧ ok g ∧ Kd.R (Kd.int .u8) 5 w base ok v bs ∧ pl ≤ bs.length ∧ (∀ x ∈ bs, 0 ≤ x ∧ x ≤ 255) ∧ bs.length ≤ 140737488355327

theorem IsScan.step {w w1 : World} {base : Nat} {ok : Nat → Prop} {g : Nat} {bs : List Int} {pl : Nat} {bad : Bool} (h : IsScan w base ok g bs pl bad)
    (hm : ∀ k, ok k → k < w.heap.size → w1.heap[k]? = w.heap[k]?) : IsScan w1 base ok g bs pl bad := by
  obtain ⟨v, hb, hg, hok, hr, h2⟩ := h
  exact ⟨v, (hm g hok (blk_lt hb)).trans hb, hg, hok, Kd.R_step hr hm, h2⟩
theorem IsScan.mono {w : World} {base : Nat} {ok ok' : Nat → Prop} {g : Nat} {bs : List Int} {pl : Nat} {bad : Bool} (h : IsScan w base ok g bs pl bad)
    (hm : ∀ k, ok k → ok' k) : IsScan w base ok' g bs pl bad := by
  obtain ⟨v, hb, hg, hok, hr, h2⟩ := h
  exact ⟨v, hb, hg, hm _ hok, Kd.R_mono hr hm, h2⟩
theorem IsScan.bound {w : World} {base : Nat} {ok : Nat → Prop} {g : Nat} {bs : List Int} {pl : Nat} {bad : Bool} (h : IsScan w base ok g bs pl bad) :
    IsScan w base (fun k => ok k ∧ base ≤ k ∧ k < w.heap.size) g bs pl bad := by
  obtain ⟨v, hb, hg, hok, hr, h2⟩ := h
  exact ⟨v, hb, hg, ⟨hok, hg, blk_lt hb⟩, Kd.R_mono (Kd.R_bound hr) (fun k hk => ⟨hk.1, hk.2.1, hk.2.2.1⟩), h2⟩

theorem IsScan.setBad {w : World} {base : Nat} {ok : Nat → Prop} {g : Nat} {bs : List Int} {pl : Nat} {bad : Bool} (h : IsScan w base ok g bs pl bad) (b : Bool) :
    IsScan (w.setCell ⟨g, 2, none⟩ (.bool b)) base ok g bs pl b := by
  obtain ⟨v, hb, hg, hok, hr, h2⟩ := h
  exact ⟨v, by simpa using blk_set hb 2 (.bool b), hg, hok, Kd.R_set hr hb (by decide) 2 _, h2⟩
theorem IsScan.setPl {w : World} {base : Nat} {ok : Nat → Prop} {g : Nat} {bs : List Int} {pl : Nat} {bad : Bool} (h : IsScan w base ok g bs pl bad) (p : Nat) (hp : p ≤ bs.length) :
    IsScan (w.setCell ⟨g, 1, none⟩ (.int .i64 p)) base ok g bs p bad := by
  obtain ⟨v, hb, hg, hok, hr, h2⟩ := h
  exact ⟨v, by simpa using blk_set hb 1 (.int .i64 p), hg, hok, Kd.R_set hr hb (by decide) 1 _, hp, h2.2⟩
theorem IsScan.drew {w : World} {base : Nat} {ok : Nat → Prop} {g : Nat} {bs : List Int} {pl : Nat} {bad : Bool} (h : IsScan w base ok g bs pl bad) : IsScan w.drew base ok g bs pl bad := h
theorem IsScan.drewN {w : World} {base : Nat} {ok : Nat → Prop} {g : Nat} {bs : List Int} {pl : Nat} {bad : Bool} (h : IsScan w base ok g bs pl bad) (m : Nat) : IsScan (w.drewN m) base ok g bs pl bad := h
theorem IsScan.fr {S : Nat → Prop} {w w1 : World} {base : Nat} {ok : Nat → Prop} {g : Nat} {bs : List Int} {pl : Nat} {bad : Bool} (h : IsScan w base ok g bs pl bad) (hf : Fr S w w1) (hs : ∀ k, ok k → ¬ S k) : IsScan w1 base ok g bs pl bad :=
  h.step (fun k ho hk => hf.block hk (hs k ho))
theorem IsScan.lt {w : World} {base : Nat} {ok : Nat → Prop} {g : Nat} {bs : List Int} {pl : Nat} {bad : Bool} (h : IsScan w base ok g bs pl bad) : g < w.heap.size := by
  obtain ⟨v, hb, _⟩ := h
  exact blk_lt hb

set_option maxHeartbeats 1000000 in
set_option maxRecDepth 100000 in
theorem off_bad (base : Nat) (ok : Nat → Prop) (g : Nat) (bs : List Int) (pl : Nat) (n : Int) (f : Value) (w : World) (hI : IsScan w base ok g bs pl true) :
    Calls Try.prog 103 #[.pointer (some ⟨g, 0, none⟩), .int .i64 n, f] w fun e w' => e = .returned (.tuple #[]) ∧ w = w' := by
  obtain ⟨v, hb, hg, hok, hr, h2⟩ := hI
  have hc2 := blk_cell hb 2
  have q1 : w.cell? ⟨g, 2, none⟩ = some (.bool true) := hc2.trans rfl
  clear hc2 hb
  go_enter Try.func103, Try.ntmps103
  go_wp2_with fail
  go_returns
  exact ⟨rfl, rfl⟩

set_option maxHeartbeats 1000000 in
set_option maxRecDepth 100000 in
theorem off_no (base : Nat) (ok : Nat → Prop) (g : Nat) (bs : List Int) (pl : Nat) (n : Int) (f : Value) (w : World) (hI : IsScan w base ok g bs pl false) (hn : n < 0 ∨ (bs.length : Int) - pl < n) :
    Calls Try.prog 103 #[.pointer (some ⟨g, 0, none⟩), .int .i64 n, f] w fun e w' => e = .returned (.tuple #[]) ∧ IsScan w' base ok g bs pl true ∧ Fr (· = g) w w' := by
  have HI := Aside0.mk hI
  obtain ⟨v, hb, hg, hok, hr, h2, h3, h4⟩ := hI
  obtain ⟨A, c, rfl, hlc, hC⟩ := Kd.R_reads hr
  have q0 : w.cell? ⟨g, 0, none⟩ = some (.slice A bs.length c) := (blk_cell hb 0).trans rfl
  have q1 : w.cell? ⟨g, 1, none⟩ = some (.int .i64 pl) := (blk_cell hb 1).trans rfl
  have q2 : w.cell? ⟨g, 2, none⟩ = some (.bool false) := (blk_cell hb 2).trans rfl
  have f2 : w.frozen? ⟨g, 2, none⟩ = false := blk_frozen hb 2
  clear hb hr hC h3
  by_cases h0 : n < 0
  · have e0 : decide (n < (0 : Int)) = true := decide_eq_true h0
    go_enter Try.func103, Try.ntmps103
    go_wp2_with fail
    go_quiet (fail)
    go_wp2_with fail
    go_returns
    exact ⟨rfl, (HI.out.drewN _).setBad true, ((Fr.refl (· = g) w).drewN _).setCell (p := ⟨g, 2, none⟩) (.inl rfl) _⟩
  · have h0' : 0 ≤ n := by omega
    have e0 : decide (n < (0 : Int)) = false := decide_eq_false h0
    have e1 : (bs.length : Int) - pl < n := by omega
    have e2 : decide ((bs.length : Int) - pl < n) = true := decide_eq_true e1
    clear hn h0
    go_enter Try.func103, Try.ntmps103
    go_wp2_with fail
    go_quiet (fail)
    go_wp2_with fail
    go_returns
    exact ⟨rfl, (HI.out.drewN _).setBad true, ((Fr.refl (· = g) w).drewN _).setCell (p := ⟨g, 2, none⟩) (.inl rfl) _⟩

set_option maxHeartbeats 2000000 in
set_option maxRecDepth 100000 in
theorem off_yes (base : Nat) (ok : Nat → Prop) (g : Nat) (bs : List Int) (pl n : Nat) (K : FuncId) (p : Value) (w : World) (R : World → Prop) (hI : IsScan w base ok g bs pl false) (hn : n ≤ bs.length - pl)
    (he : ∀ (xs : Array Value) (W : World), Sem.run Try.prog (callFunc K xs) W = .ok (.enter K xs) W)
    (H : ∀ A w', IsScan w' base ok g bs (pl + n) false → Fr (· = g) w w' → w'.heap.size = w.heap.size → Kd.C (Kd.int .u8) w' A n ((bs.drop pl).take n) → (∀ ad, A = some ad → ∃ cs, w'.heap[ad.block]? = some (.cells cs 5 (0, 0))) →
      Calls Try.prog K #[.slice A n n, p] w' fun e w'' => e = .returned (.tuple #[]) ∧ R w'') :
    Calls Try.prog 103 #[.pointer (some ⟨g, 0, none⟩), .int .i64 n, .func (.func K) #[] #[p]] w fun e w' => e = .returned (.tuple #[]) ∧ R w' := by
  have HI := Aside0.mk hI
  obtain ⟨v, hb, hg, hok, hr, h2, h3, h4⟩ := hI
  obtain ⟨A, c, rfl, hlc, hC⟩ := Kd.R_reads hr
  have hown := hr.2
  obtain ⟨inner, hown, hrep⟩ := hown
  have HM0 : ∀ m, IsScan ((w.drewN m).setCell ⟨g, 1, none⟩ (.int .i64 ((pl : Int) + n))) base ok g bs (pl + n) false := fun m => (HI.out.drewN m).setPl (pl + n) (by omega)
  have HG0 : ∀ m, Fr (· = g) w ((w.drewN m).setCell ⟨g, 1, none⟩ (.int .i64 ((pl : Int) + n))) := fun m => ((Fr.refl (· = g) w).drewN m).setCell (p := ⟨g, 1, none⟩) (.inl rfl) _
  have HZ0 : ∀ m, ((w.drewN m).setCell ⟨g, 1, none⟩ (.int .i64 ((pl : Int) + n))).heap.size = w.heap.size := fun m => by simp [World.setCell, World.drewN]
  have e0 : decide ((n : Int) < (0 : Int)) = false := decide_eq_false (by omega)
  have e2 : decide ((bs.length : Int) - pl < (n : Int)) = false := decide_eq_false (by omega)
  have q1 : w.cell? ⟨g, 1, none⟩ = some (.int .i64 pl) := (blk_cell hb 1).trans rfl
  have q2 : w.cell? ⟨g, 2, none⟩ = some (.bool false) := (blk_cell hb 2).trans rfl
  have f2 : w.frozen? ⟨g, 1, none⟩ = false := blk_frozen hb 1
  have q0 : w.cell? ⟨g, 0, none⟩ = some (.slice A bs.length c) := (blk_cell hb 0).trans rfl
  have hne : ∀ k, (Value.slice A bs.length c).ownBlock = some k → k ≠ g := fun k hk e => by
    have := Kd.R_ne hr hb (by decide)
    rw [hk, e] at this
    exact this rfl
  have hty : ∀ m ad, A = some ad → ∃ cs, ((w.drewN m).setCell ⟨g, 1, none⟩ (.int .i64 ((pl : Int) + n))).heap[ad.block]? = some (.cells cs 5 (0, 0)) := fun m ad hA => by
    subst hA
    obtain ⟨cs, hcs⟩ := own_typed hown ad.block rfl
    exact ⟨cs, (Below.heap_setCell _ _ _ _ (hne _ rfl)).trans hcs⟩
  have hCm : ∀ m, Kd.C (Kd.int .u8) ((w.drewN m).setCell ⟨g, 1, none⟩ (.int .i64 ((pl : Int) + n))) A bs.length bs := fun m => by
    obtain ⟨A', c', e, _, h⟩ := Kd.R_reads (Kd.R_set hr hb (by decide) 1 (.int .i64 ((pl : Int) + n)))
    injection e with e1 e2 e3
    subst e1
    exact Kd.C_below h (by constructor <;> simp [World.setCell, World.drewN])
  have hform : A = none ∨ ∃ gd, A = some ⟨gd, 0, none⟩ := by
    rcases hown.2 with ⟨e, _⟩ | ⟨gd, _, _, e, _⟩
    · injection e with e1; exact .inl e1
    · injection e with e1; exact .inr ⟨gd, e1⟩
  have hcm : c ≤ 9223372036854775807 := by
    rcases hown.2 with ⟨e, _⟩ | ⟨gd, cap, cur, e, _, _, _, hcm, _⟩
    · injection e with _ _ e1; omega
    · injection e with _ _ e1; unfold maxLen at hcm; omega
  have hnil : A = none → bs = [] := by
    rintro rfl
    rcases Nat.eq_zero_or_pos bs.length with h0 | h0
    · exact List.length_eq_zero_iff.1 h0
    · obtain ⟨ad, e, _⟩ := hC.2.2 h0
      cases e
  have HH := Aside0.mk H
  have Hty := Aside0.mk hty
  have HCm := Aside0.mk hCm
  have HM := Aside0.mk HM0
  have HG := Aside0.mk HG0
  have HZ := Aside0.mk HZ0
  clear hb hr h3 hrep hown hC hne hty hCm H HM0 HG0 HZ0
  rcases hform with rfl | ⟨gd, rfl⟩
  · have := hnil rfl
    subst this
    obtain rfl : pl = 0 := by simpa using h2
    obtain rfl : n = 0 := by simpa using hn
    clear hnil
    go_enter Try.func103, Try.ntmps103
    go_wp2_with fail
    go_quiet (fail)
    go_wp2_with fail
    go_quiet (fail)
    go_wp2_with fail
    refine (HH.out none _ (HM.out _) (HG.out _) (HZ.out _) ⟨rfl, Nat.zero_le _, fun h => absurd h (Nat.lt_irrefl 0)⟩ (fun ad h => by cases h)).mono ?_
    · rintro e w' ⟨rfl, hR⟩
      have HR := Aside0.mk hR
      clear hR
      go_wp2_with fail
      go_returns
      exact ⟨rfl, HR.out⟩
  · clear hnil
    by_cases hz : n = 0
    · subst hz
      go_enter Try.func103, Try.ntmps103
      go_wp2_with fail
      go_quiet (fail)
      go_wp2_with fail
      go_quiet (fail)
      go_wp2_with fail
      have HM1 := HM.out
      have HG1 := HG.out
      have HZ1 := HZ.out
      have Hty1 := Hty.out
      simp only [Int.natCast_zero, Int.add_zero] at HM1 HG1 HZ1 Hty1
      refine (HH.out _ _ (HM1 _) (HG1 _) (HZ1 _) ⟨by simp, Nat.zero_le _, fun h => absurd h (Nat.lt_irrefl 0)⟩ (Hty1 _)).mono ?_
      · clear HM1 HG1 HZ1 Hty1
        rintro e w' ⟨rfl, hR⟩
        have HR := Aside0.mk hR
        clear hR
        go_wp2_with fail
        go_returns
        exact ⟨rfl, HR.out⟩
    · have hz' : 0 < n := Nat.pos_of_ne_zero hz
      go_enter Try.func103, Try.ntmps103
      go_wp2_with fail
      go_quiet (fail)
      go_wp2_with fail
      go_quiet (fail)
      go_wp2_with fail
      refine (HH.out _ _ (HM.out _) (HG.out _) (HZ.out _) ?_ ?_).mono ?_
      · have h5 := fun m => C_sub (lo := pl) (n := n) (HCm.out m) (by omega)
        simp only [add_plain, Kd.int, Kd.scalar, Nat.mul_one] at h5
        exact h5 _
      · intro ad h
        injection h with h
        subst h
        exact Hty.out _ ⟨gd, 0, none⟩ rfl
      · rintro e w' ⟨rfl, hR⟩
        have HR := Aside0.mk hR
        clear hR
        go_wp2_with fail
        go_returns
        exact ⟨rfl, HR.out⟩
end

section
open Go.RowKit Go.Proofs.YtngjaaldidmgjaaW.PrintWords Go.Proofs.YtngjaaldidmgjaaW.PrintLast Go.Proofs.YtngjaaldidmgjaaW.PrintMore
set_option linter.unusedVariables false
set_option linter.unusedSimpArgs false

/-- The number of bytes. -/
def num (l : List Int) : Int := l.foldl (fun x c => x * 256 + c) 0
theorem num_snoc (l : List Int) (c : Int) : num (l ++ [c]) = num l * 256 + c := by simp [num]
theorem num_range0 (l : List Int) (h : ∀ x ∈ l, 0 ≤ x ∧ x ≤ 255) : ∀ a : Int, 0 ≤ a → 0 ≤ l.foldl (fun x c => x * 256 + c) a ∧ l.foldl (fun x c => x * 256 + c) a < (a + 1) * 256 ^ l.length := by
  induction l with
  | nil => intro a ha; simp; omega
  | cons c l ih =>
    intro a ha
    have h2 := h c (by simp)
    have h1 := ih (fun x hx => h x (by simp [hx])) (a * 256 + c) (by omega)
    refine ⟨h1.1, Int.lt_of_lt_of_le h1.2 ?_⟩
    rw [List.length_cons, Int.pow_succ, Int.mul_comm (256 ^ l.length) 256, ← Int.mul_assoc]
    exact Int.mul_le_mul_of_nonneg_right (by omega) (Int.pow_nonneg (by decide))
theorem num_range (l : List Int) (h : ∀ x ∈ l, 0 ≤ x ∧ x ≤ 255) : 0 ≤ num l ∧ num l < 256 ^ l.length := by
  have := num_range0 l h 0 (by decide)
  simpa [num] using this
theorem or_byte (x c : Int) (h0 : 0 ≤ x) (h1 : x < 72057594037927936) (h2 : 0 ≤ c) (h3 : c ≤ 255) : bits .or .u64 (IntKind.u64.wrap (x * 256)) (IntKind.u64.wrap c) = x * 256 + c := by
  rw [IntWalk.u64_in _ (by omega), IntWalk.u64_in _ (by omega)]
  exact bits_join .u64 64 (by decide) (fun n h h' => IntWalk.u64_in _ (by omega)) 8 (x * 256) c (by omega) (by omega) (by omega) h2 (by omega) (by omega)
theorem num_step (l : List Int) (k : Nat) (hl : l.length ≤ 8) (hby : ∀ x ∈ l, 0 ≤ x ∧ x ≤ 255) (h : k < l.length) :
    bits .or .u64 (IntKind.u64.wrap (num (l.take k) * 256)) (IntKind.u64.wrap (rd l k)) = num (l.take (k + 1)) := by
  have h1 := num_range (l.take k) (fun x hx => hby x (List.mem_of_mem_take hx))
  have h2 : (rd l k) ∈ l := by rw [rd_at l k h]; exact List.getElem_mem h
  have h3 := hby _ h2
  rw [take_snoc l k h, num_snoc]
  refine or_byte _ _ h1.1 (Int.lt_of_lt_of_le h1.2 ?_) h3.1 h3.2
  rw [List.length_take, Nat.min_eq_left (by omega)]
  have hk : k = 0 ∨ k = 1 ∨ k = 2 ∨ k = 3 ∨ k = 4 ∨ k = 5 ∨ k = 6 ∨ k = 7 := by omega
  rcases hk with rfl | rfl | rfl | rfl | rfl | rfl | rfl | rfl <;> decide

set_option maxHeartbeats 1000000 in
set_option maxRecDepth 100000 in
theorem num1 (A : Option Addr) (n c : Nat) (l : List Int) (B : Nat) (w : World) (hl : l.length ≤ 8) (hby : ∀ x ∈ l, 0 ≤ x ∧ x ≤ 255) (hr : Kd.C (Kd.int .u8) w A l.length l)
    (hB : w.heap[B]? = some (.cells #[.int .u64 0] 24 (0, 0))) (hne : ∀ ad, A = some ad → ad.block ≠ B) :
    Calls Try.prog 105 #[.slice A l.length c, .pointer (some ⟨B, 0, none⟩)] w fun e w' => e = .returned (.tuple #[]) ∧ w'.heap[B]? = some (.cells #[.int .u64 (num l)] 24 (0, 0)) ∧ Fr (· = B) w w' := by
  have HR := Aside0.mk hr
  have HBy := Aside0.mk hby
  have HB := Aside0.mk hB
  have HN := Aside0.mk hne
  clear hr hby hB hne
  go_enter Try.func105, Try.ntmps105
  go_wp2
  go_loopw [4, 7] (fun v4 i wr => ∃ k : Nat, k ≤ l.length ∧ i = .int .i64 k ∧ Aside0 (wr.heap[B]? = some (.cells #[.int .u64 (num (l.take k))] 24 (0, 0)) ∧ Fr (· = B) w wr)) (fun _ i _ => l.length - (intOf i).toNat)
  case atStart => exact ⟨0, Nat.zero_le _, rfl, ⟨by simpa [num] using HB.out, Fr.refl _ _⟩⟩
  case round =>
    obtain ⟨k, hk, rfl, HW⟩ := hrel
    by_cases hlt : k < l.length
    · have q1 : wr.cell? ⟨B, 0, none⟩ = some (.int .u64 (num (l.take k))) := (blk_cell HW.out.1 0).trans rfl
      have f1 : wr.frozen? ⟨B, 0, none⟩ = false := blk_frozen HW.out.1 0
      obtain ⟨ad, hA, hc⟩ := Kd.at_int HR.out k (by omega) (by omega)
      subst hA
      have hc2 : wr.cell? (ad.add k) = some (.int .u8 (rd l k)) := HW.out.2.cell hc (fun e => HN.out ad rfl (by rw [block_add] at e; exact e))
      clear hc
      have HS := Aside0.mk (num_step l k hl HBy.out hlt)
      go_wp2
      rw [HS.out]
      go_roundw
      case rel => exact ⟨k + 1, hlt, by go_num, ⟨by simpa using blk_set HW.out.1 0 _, HW.out.2.setCell (.inl rfl) _⟩⟩
      case measure => simp [intOf]; omega
    · obtain rfl : k = l.length := by omega
      go_wp2
      go_returns
      have := HW.out.1
      rw [List.take_length] at this
      exact ⟨rfl, this, HW.out.2⟩


/-- Does what is asked for lie in what is left? -/
def fits (len pl : Nat) (bad : Bool) (n : Int) : Bool := !bad && decide (0 ≤ n) && decide (n ≤ (len : Int) - pl)
def scPl (len pl : Nat) (bad : Bool) (n : Int) : Nat := if fits len pl bad n then pl + n.toNat else pl
def scBad (len pl : Nat) (bad : Bool) (n : Int) : Bool := !fits len pl bad n
def scTake (bs : List Int) (pl : Nat) (bad : Bool) (n : Int) : List Int := if fits bs.length pl bad n then (bs.drop pl).take n.toNat else []
def sizeOr (n : Int) : Int := if 1 ≤ n ∧ n ≤ 8 then n else -1
theorem fits_iff (len pl : Nat) (bad : Bool) (n : Int) : fits len pl bad n = true ↔ bad = false ∧ 0 ≤ n ∧ n ≤ (len : Int) - pl := by
  unfold fits; cases bad <;> simp

set_option maxHeartbeats 1000000 in
set_option maxRecDepth 100000 in
theorem bytes1 (A : Option Addr) (c : Nat) (l : List Int) (B : Nat) (w : World) (hl : l.length < 140737488355328) (hlc : l.length ≤ c) (hr : Kd.C (Kd.int .u8) w A l.length l)
    (hB : w.heap[B]? = some (.cells #[.slice none 0 0] 30 (0, 0))) :
    Calls Try.prog 104 #[.slice A l.length c, .pointer (some ⟨B, 0, none⟩)] w fun e w' => e = .returned (.tuple #[]) ∧ (∃ v, w'.heap[B]? = some (.cells #[v] 30 (0, 0)) ∧ Kd.R (Kd.int .u8) 5 w' w.heap.size (fun _ => True) v l) ∧ Fr (· = B) w w' := by
  have hf : slices_Clone.f l = some l := by unfold slices_Clone.f; rw [if_pos hl]
  have HC := Aside0.mk (slices_Clone.calls A c l l w hr hlc hf)
  have HB := Aside0.mk hB
  clear hr hB hf
  go_enter Try.func104, Try.ntmps104
  go_wp2_with fail
  refine HC.out.mono ?_
  rintro e w1 ⟨v, rfl, hv, hb⟩
  have q1 := blk_below HB.out hb
  have c1 : w1.cell? ⟨B, 0, none⟩ = some (.slice none 0 0) := (blk_cell q1 0).trans rfl
  have f1 : w1.frozen? ⟨B, 0, none⟩ = false := blk_frozen q1 0
  obtain ⟨A', c', rfl⟩ := Kd.R_slice hv
  have HV := Aside0.mk hv
  have HBl := Aside0.mk hb
  have HQ := Aside0.mk q1
  clear hv hb q1
  go_wp2_with fail
  go_returns
  refine ⟨rfl, ⟨_, by simpa using blk_set HQ.out 0 (.slice A' l.length c'), ?_⟩, (Fr.of_below (S := (· = B)) HBl.out).setCell (p := ⟨B, 0, none⟩) (.inl rfl) _⟩
  exact Kd.R_set HV.out HQ.out (by decide) 0 _

set_option maxHeartbeats 1000000 in
theorem off_num (base : Nat) (ok : Nat → Prop) (g : Nat) (bs : List Int) (pl : Nat) (bad : Bool) (n : Int) (B : Nat) (w : World) (hI : IsScan w base ok g bs pl bad) (h8 : n ≤ 8) (hok : ¬ ok B)
    (hB : w.heap[B]? = some (.cells #[.int .u64 0] 24 (0, 0))) :
    Calls Try.prog 103 #[.pointer (some ⟨g, 0, none⟩), .int .i64 n, .func (.func 105) #[] #[.pointer (some ⟨B, 0, none⟩)]] w fun e w' => e = .returned (.tuple #[]) ∧
      (w'.heap[B]? = some (.cells #[.int .u64 (num (scTake bs pl bad n))] 24 (0, 0)) ∧ IsScan w' base ok g bs (scPl bs.length pl bad n) (scBad bs.length pl bad n) ∧ Fr (fun k => k = g ∨ k = B) w w') := by
  have hgB : g ≠ B := fun e => by
    subst e
    obtain ⟨v, hb, _⟩ := hI
    rw [hb] at hB
    injection hB with hB
    injection hB with _ h
    exact absurd h (by decide)
  by_cases hf : fits bs.length pl bad n = true
  · have hf' := (fits_iff _ _ _ _).1 hf
    obtain ⟨rfl, h0, h1⟩ := hf'
    obtain ⟨m, rfl⟩ := Int.eq_ofNat_of_zero_le h0
    simp only [scPl, scBad, scTake, hf, if_true, Int.toNat_natCast]
    refine off_yes base ok g bs pl m 105 (.pointer (some ⟨B, 0, none⟩)) w (fun w' => w'.heap[B]? = some (.cells #[.int .u64 (num ((bs.drop pl).take m))] 24 (0, 0)) ∧ IsScan w' base ok g bs (pl + m) (!true) ∧ Fr (fun k => k = g ∨ k = B) w w') hI (by omega)
      (enters_ Try.func105 (by kernel_rfl) rfl) ?_
    intro A w1 hI1 hfr _ hC hty
    have hB1 := hfr.blk hB (fun e => hgB e.symm)
    have hlen : ((bs.drop pl).take m).length = m := by rw [List.length_take, List.length_drop]; omega
    have hby : ∀ x ∈ (bs.drop pl).take m, 0 ≤ x ∧ x ≤ 255 := fun x hx => by
      obtain ⟨v, _, _, _, _, _, h3, _⟩ := hI
      exact h3 x (List.mem_of_mem_drop (List.mem_of_mem_take hx))
    have := num1 A 0 m ((bs.drop pl).take m) B w1 (by omega) hby (by rw [hlen]; exact hC) hB1 (fun ad hA e => by
      obtain ⟨cs, hcs⟩ := hty ad hA
      rw [e, hB1] at hcs
      injection hcs with hcs
      injection hcs with _ h
      exact absurd h (by decide))
    rw [hlen] at this
    refine this.mono ?_
    rintro e w2 ⟨rfl, hq, hfr2⟩
    exact ⟨rfl, hq, hI1.fr hfr2 (fun k hk e => by subst e; exact hok hk), (hfr.mono (fun k h => .inl h)).trans (hfr2.mono (fun k h => .inr h))⟩
  · have hf2 : fits bs.length pl bad n = false := by simpa using hf
    simp only [scPl, scBad, scTake, hf2, if_false, Bool.not_false, Bool.false_eq_true]
    cases bad with
    | true =>
      refine (off_bad base ok g bs pl n _ w hI).mono ?_
      rintro e w1 ⟨rfl, rfl⟩
      exact ⟨rfl, hB, hI, Fr.refl _ _⟩
    | false =>
      refine (off_no base ok g bs pl n _ w hI ?_).mono ?_
      · have : ¬ (false = false ∧ 0 ≤ n ∧ n ≤ (bs.length : Int) - pl) := fun h => hf ((fits_iff _ _ _ _).2 h)
        simp only [true_and] at this
        omega
      · rintro e w1 ⟨rfl, hI1, hfr⟩
        exact ⟨rfl, hfr.blk hB (fun e => hgB e.symm), hI1, hfr.mono (fun k h => .inl h)⟩

set_option maxHeartbeats 1000000 in
theorem off_bytes (base : Nat) (ok : Nat → Prop) (g : Nat) (bs : List Int) (pl : Nat) (bad : Bool) (n : Int) (B : Nat) (w : World) (hI : IsScan w base ok g bs pl bad) (hok : ¬ ok B)
    (hB : w.heap[B]? = some (.cells #[.slice none 0 0] 30 (0, 0))) :
    Calls Try.prog 103 #[.pointer (some ⟨g, 0, none⟩), .int .i64 n, .func (.func 104) #[] #[.pointer (some ⟨B, 0, none⟩)]] w fun e w' => e = .returned (.tuple #[]) ∧
      ((∃ v, w'.heap[B]? = some (.cells #[v] 30 (0, 0)) ∧ Kd.R (Kd.int .u8) 5 w' w.heap.size (fun _ => True) v (scTake bs pl bad n)) ∧ IsScan w' base ok g bs (scPl bs.length pl bad n) (scBad bs.length pl bad n) ∧ Fr (fun k => k = g ∨ k = B) w w') := by
  have hgB : g ≠ B := fun e => by
    subst e
    obtain ⟨v, hb, _⟩ := hI
    rw [hb] at hB
    injection hB with hB
    injection hB with _ h
    exact absurd h (by decide)
  by_cases hf : fits bs.length pl bad n = true
  · have hf' := (fits_iff _ _ _ _).1 hf
    obtain ⟨rfl, h0, h1⟩ := hf'
    obtain ⟨m, rfl⟩ := Int.eq_ofNat_of_zero_le h0
    simp only [scPl, scBad, scTake, hf, if_true, Int.toNat_natCast]
    refine off_yes base ok g bs pl m 104 (.pointer (some ⟨B, 0, none⟩)) w (fun w' => (∃ v, w'.heap[B]? = some (.cells #[v] 30 (0, 0)) ∧ Kd.R (Kd.int .u8) 5 w' w.heap.size (fun _ => True) v ((bs.drop pl).take m)) ∧ IsScan w' base ok g bs (pl + m) (!true) ∧ Fr (fun k => k = g ∨ k = B) w w') hI (by omega)
      (enters_ Try.func104 (by kernel_rfl) rfl) ?_
    intro A w1 hI1 hfr _ hC hty
    have hB1 := hfr.blk hB (fun e => hgB e.symm)
    have hlen : ((bs.drop pl).take m).length = m := by rw [List.length_take, List.length_drop]; omega
    have h4 : bs.length ≤ 140737488355327 := by
      obtain ⟨v, _, _, _, _, _, _, h4⟩ := hI
      exact h4
    have := bytes1 A m ((bs.drop pl).take m) B w1 (by omega) (by omega) (by rw [hlen]; exact hC) hB1
    rw [hlen] at this
    refine this.mono ?_
    rintro e w2 ⟨rfl, ⟨v, hq, hv⟩, hfr2⟩
    exact ⟨rfl, ⟨v, hq, Kd.R_lower hv hfr.size⟩, hI1.fr hfr2 (fun k hk e => by subst e; exact hok hk), (hfr.mono (fun k h => .inl h)).trans (hfr2.mono (fun k h => .inr h))⟩
  · have hf2 : fits bs.length pl bad n = false := by simpa using hf
    simp only [scPl, scBad, scTake, hf2, if_false, Bool.not_false, Bool.false_eq_true]
    cases bad with
    | true =>
      refine (off_bad base ok g bs pl n _ w hI).mono ?_
      rintro e w1 ⟨rfl, rfl⟩
      exact ⟨rfl, ⟨_, hB, Kd.R_nil _ _ _ _ _⟩, hI, Fr.refl _ _⟩
    | false =>
      refine (off_no base ok g bs pl n _ w hI ?_).mono ?_
      · have : ¬ (false = false ∧ 0 ≤ n ∧ n ≤ (bs.length : Int) - pl) := fun h => hf ((fits_iff _ _ _ _).2 h)
        simp only [true_and] at this
        omega
      · rintro e w1 ⟨rfl, hI1, hfr⟩
        exact ⟨rfl, ⟨_, hfr.blk hB (fun e => hgB e.symm), Kd.R_nil _ _ _ _ _⟩, hI1, hfr.mono (fun k h => .inl h)⟩
end

section
open Go.RowKit Go.Proofs.YtngjaaldidmgjaaW.PrintWords Go.Proofs.YtngjaaldidmgjaaW.PrintLast Go.Proofs.YtngjaaldidmgjaaW.PrintMore
set_option linter.unusedVariables false
set_option linter.unusedSimpArgs false

def isSize (n : Int) : Bool := decide (1 ≤ n ∧ n ≤ 8)
theorem sized (n : Int) (w : World) : Calls Try.prog 102 #[.int .i64 n] w fun e w' => e = .returned (.bool (isSize n)) ∧ w = w' := by
  by_cases h1 : 1 ≤ n
  · by_cases h2 : n ≤ 8
    · have hs : isSize n = true := by simp [isSize, h1, h2]
      have e1 : decide ((1 : Int) ≤ n) = true := decide_eq_true h1
      have e2 : decide (n ≤ (8 : Int)) = true := decide_eq_true h2
      rw [hs]
      clear hs
      go_enter Try.func102, Try.ntmps102
      go_wp2_with fail
      go_returns
      exact ⟨rfl, rfl⟩
    · have hs : isSize n = false := by simp [isSize, h2]
      have e1 : decide ((1 : Int) ≤ n) = true := decide_eq_true h1
      have e2 : decide (n ≤ (8 : Int)) = false := decide_eq_false h2
      rw [hs]
      clear hs
      go_enter Try.func102, Try.ntmps102
      go_wp2_with fail
      go_returns
      exact ⟨rfl, rfl⟩
  · have hs : isSize n = false := by simp [isSize, h1]
    have e1 : decide ((1 : Int) ≤ n) = false := decide_eq_false h1
    rw [hs]
    clear hs
    go_enter Try.func102, Try.ntmps102
    go_wp2_with fail
    go_returns
    exact ⟨rfl, rfl⟩

theorem sizeOr_yes {n : Int} (h : isSize n = true) : sizeOr n = n := by unfold sizeOr; rw [if_pos (by simpa [isSize] using h)]
theorem sizeOr_no {n : Int} (h : isSize n = false) : sizeOr n = -1 := by unfold sizeOr; rw [if_neg (by simpa [isSize] using h)]
theorem sizeOr_le (n : Int) : sizeOr n ≤ 8 := by unfold sizeOr; split <;> omega

set_option maxHeartbeats 1000000 in
set_option maxRecDepth 100000 in
theorem ScNum (base : Nat) (ok : Nat → Prop) (g : Nat) (bs : List Int) (pl : Nat) (bad : Bool) (n : Int) (w : World) (hI : IsScan w base ok g bs pl bad) :
    Calls Try.prog 61 #[.pointer (some ⟨g, 0, none⟩), .int .i64 n] w fun e w' => e = .returned (.int .u64 (num (scTake bs pl bad (sizeOr n)))) ∧
      IsScan w' base ok g bs (scPl bs.length pl bad (sizeOr n)) (scBad bs.length pl bad (sizeOr n)) ∧ Fr (· = g) w w' := by
  have HC := Aside0.mk (fun (W : World) (hf : Fr (fun _ => False) w W) (hB : W.heap[w.heap.size]? = some (.cells #[.int .u64 0] 24 (0, 0))) =>
    off_num base (fun k => ok k ∧ base ≤ k ∧ k < w.heap.size) g bs pl bad (sizeOr n) w.heap.size W (hI.bound.fr hf (fun _ _ h => h)) (sizeOr_le n) (fun h => Nat.lt_irrefl _ h.2.2) hB)
  have HF := Aside0.mk (show Fr (fun _ => False) w (w.alloc (.cells #[.int .u64 0] 24)) from (Fr.refl _ w).alloc _)
  have HB := Aside0.mk (show (w.alloc (.cells #[.int .u64 0] 24)).heap[w.heap.size]? = some (.cells #[.int .u64 0] 24 (0, 0)) from heap_alloc_new w _)
  have HD := Aside0.mk (HC.out _ HF.out HB.out)
  clear HC HB
  cases hs : isSize n with
  | true =>
    rw [sizeOr_yes hs] at HD ⊢
    have HS := Aside0.mk hs
    clear hs hI
    go_enter Try.func61, Try.ntmps61
    go_wp2_with (go_at_call 102; refine (sized n _).mono ?_; rintro e w' ⟨rfl, rfl⟩; simp only [HS.out])
    refine HD.out.mono ?_
    rintro e w1 ⟨rfl, hq, hi, hfr⟩
    have c1 : w1.cell? ⟨w.heap.size, 0, none⟩ = some (.int .u64 (num (scTake bs pl bad n))) := (blk_cell hq 0).trans rfl
    have HI := Aside0.mk hi
    have HR := Aside0.mk hfr
    clear hq hi hfr
    go_wp2_with fail
    go_returns
    exact ⟨rfl, HI.out.mono (fun k h => h.1), (HF.out.mono (fun _ h => h.elim)).then_ HR.out (fun k h => h.elim .inl (fun h => .inr (by omega)))⟩
  | false =>
    rw [sizeOr_no hs] at HD ⊢
    have HS := Aside0.mk hs
    clear hs hI
    go_enter Try.func61, Try.ntmps61
    go_wp2_with (go_at_call 102; refine (sized n _).mono ?_; rintro e w' ⟨rfl, rfl⟩; simp only [HS.out])
    refine HD.out.mono ?_
    rintro e w1 ⟨rfl, hq, hi, hfr⟩
    have c1 : w1.cell? ⟨w.heap.size, 0, none⟩ = some (.int .u64 (num (scTake bs pl bad (-1)))) := (blk_cell hq 0).trans rfl
    have HI := Aside0.mk hi
    have HR := Aside0.mk hfr
    clear hq hi hfr
    go_wp2_with fail
    go_returns
    exact ⟨rfl, HI.out.mono (fun k h => h.1), (HF.out.mono (fun _ h => h.elim)).then_ HR.out (fun k h => h.elim .inl (fun h => .inr (by omega)))⟩

set_option maxHeartbeats 1000000 in
set_option maxRecDepth 100000 in
theorem ScBytes (base : Nat) (ok : Nat → Prop) (g : Nat) (bs : List Int) (pl : Nat) (bad : Bool) (n : Int) (w : World) (hI : IsScan w base ok g bs pl bad) :
    Calls Try.prog 60 #[.pointer (some ⟨g, 0, none⟩), .int .i64 n] w fun e w' => ∃ v, e = .returned v ∧ Kd.R (Kd.int .u8) 5 w' w.heap.size (fun _ => True) v (scTake bs pl bad n) ∧
      IsScan w' base ok g bs (scPl bs.length pl bad n) (scBad bs.length pl bad n) ∧ Fr (· = g) w w' := by
  have HC := Aside0.mk (fun (W : World) (hf : Fr (fun _ => False) w W) (hB : W.heap[w.heap.size]? = some (.cells #[.slice none 0 0] 30 (0, 0))) =>
    off_bytes base (fun k => ok k ∧ base ≤ k ∧ k < w.heap.size) g bs pl bad n w.heap.size W (hI.bound.fr hf (fun _ _ h => h)) (fun h => Nat.lt_irrefl _ h.2.2) hB)
  have HF := Aside0.mk (show Fr (fun _ => False) w (w.alloc (.cells #[.slice none 0 0] 30)) from (Fr.refl _ w).alloc _)
  have HB := Aside0.mk (show (w.alloc (.cells #[.slice none 0 0] 30)).heap[w.heap.size]? = some (.cells #[.slice none 0 0] 30 (0, 0)) from heap_alloc_new w _)
  have HD := Aside0.mk (HC.out _ HF.out HB.out)
  clear HC HB hI
  go_enter Try.func60, Try.ntmps60
  go_wp2_with fail
  refine HD.out.mono ?_
  rintro e w1 ⟨rfl, ⟨v, hq, hv⟩, hi, hfr⟩
  obtain ⟨A, c, rfl⟩ := Kd.R_slice hv
  have c1 : w1.cell? ⟨w.heap.size, 0, none⟩ = some (.slice A (scTake bs pl bad n).length c) := (blk_cell hq 0).trans rfl
  have HV := Aside0.mk hv
  have HI := Aside0.mk hi
  have HR := Aside0.mk hfr
  clear hq hi hfr hv
  go_wp2_with fail
  go_returns
  exact ⟨_, rfl, Kd.R_lower HV.out HF.out.size, HI.out.mono (fun k h => h.1), (HF.out.mono (fun _ h => h.elim)).then_ HR.out (fun k h => h.elim .inl (fun h => .inr (by omega)))⟩
end

section
open Go.RowKit Go.Proofs.YtngjaaldidmgjaaW.PrintWords Go.Proofs.YtngjaaldidmgjaaW.PrintLast Go.Proofs.YtngjaaldidmgjaaW.PrintMore
set_option linter.unusedVariables false
set_option linter.unusedSimpArgs false

set_option maxHeartbeats 1000000 in
set_option maxRecDepth 100000 in
theorem ScRead (A : Option Addr) (c : Nat) (l : List Int) (w : World) (hr : Kd.C (Kd.int .u8) w A l.length l) (hc : l.length ≤ c) (hl : l.length < 140737488355328) (hby : ∀ x ∈ l, 0 ≤ x ∧ x ≤ 255) :
    Calls Try.prog 58 #[.slice A l.length c] w fun e w' => ∃ g, e = .returned (.pointer (some ⟨g, 0, none⟩)) ∧ IsScan w' w.heap.size (fun _ => True) g l 0 false ∧ Below w.heap.size w w' := by
  have hf : slices_Clone.f l = some l := by unfold slices_Clone.f; rw [if_pos hl]
  have HC := Aside0.mk (slices_Clone.calls A c l l w hr hc hf)
  have HBy := Aside0.mk hby
  clear hr hf hby
  go_enter Try.func58, Try.ntmps58
  go_wp2_with fail
  refine HC.out.mono ?_
  rintro e w1 ⟨v, rfl, hv, hb⟩
  obtain ⟨A', c', rfl⟩ := Kd.R_slice hv
  have HV := Aside0.mk hv
  have HB := Aside0.mk hb
  clear hv hb
  go_wp2_with fail
  go_returns
  refine ⟨_, rfl, ⟨_, heap_alloc_new _ _, HB.out.size, trivial, Kd.R_below HV.out (below_alloc (Below.refl _ _) _), Nat.zero_le _, HBy.out, by omega⟩, HB.out.alloc HB.out.size _⟩

set_option maxHeartbeats 1000000 in
set_option maxRecDepth 100000 in
theorem ScLeft (base : Nat) (ok : Nat → Prop) (g : Nat) (bs : List Int) (pl : Nat) (bad : Bool) (w : World) (hI : IsScan w base ok g bs pl bad) :
    Calls Try.prog 59 #[.pointer (some ⟨g, 0, none⟩)] w fun e w' => e = .returned (.int .i64 ((bs.length : Int) - pl)) ∧ Drawn0 w w' := by
  obtain ⟨v, hb, hg, hok, hr, h2, h3, h4⟩ := hI
  obtain ⟨A, c, rfl, hlc, hC⟩ := Kd.R_reads hr
  have q0 : w.cell? ⟨g, 0, none⟩ = some (.slice A bs.length c) := (blk_cell hb 0).trans rfl
  have q1 : w.cell? ⟨g, 1, none⟩ = some (.int .i64 pl) := (blk_cell hb 1).trans rfl
  clear hb hr hC h3
  go_enter Try.func59, Try.ntmps59
  go_wp2_with fail
  go_quiet (fail)
  go_wp2_with fail
  go_returns
  exact ⟨rfl, ⟨⟨_, rfl⟩⟩⟩

set_option maxHeartbeats 1000000 in
set_option maxRecDepth 100000 in
theorem ScPlace (base : Nat) (ok : Nat → Prop) (g : Nat) (bs : List Int) (pl : Nat) (bad : Bool) (w : World) (hI : IsScan w base ok g bs pl bad) :
    Calls Try.prog 111 #[.pointer (some ⟨g, 0, none⟩)] w fun e w' => e = .returned (.int .i64 (pl : Int)) ∧ Drawn0 w w' := by
  obtain ⟨v, hb, hg, hok, hr, h2, h3, h4⟩ := hI
  have q1 : w.cell? ⟨g, 1, none⟩ = some (.int .i64 pl) := (blk_cell hb 1).trans rfl
  clear hb hr h3
  go_enter Try.func111, Try.ntmps111
  go_wp2_with fail
  go_returns
  exact ⟨rfl, Drawn0.refl _⟩

set_option maxHeartbeats 1000000 in
set_option maxRecDepth 100000 in
theorem ScBadq (base : Nat) (ok : Nat → Prop) (g : Nat) (bs : List Int) (pl : Nat) (bad : Bool) (w : World) (hI : IsScan w base ok g bs pl bad) :
    Calls Try.prog 62 #[.pointer (some ⟨g, 0, none⟩)] w fun e w' => e = .returned (.bool bad) ∧ Drawn0 w w' := by
  obtain ⟨v, hb, hg, hok, hr, h2, h3, h4⟩ := hI
  have q1 : w.cell? ⟨g, 2, none⟩ = some (.bool bad) := (blk_cell hb 2).trans rfl
  clear hb hr h3
  go_enter Try.func62, Try.ntmps62
  go_wp2_with fail
  go_returns
  exact ⟨rfl, Drawn0.refl _⟩

/-- A number of so many bytes, with its sign. -/
def signed (s : Int) (x : Int) : Int := if isSize s = true then (if x < 256 ^ s.toNat / 2 then x else x - 256 ^ s.toNat) else 0

theorem pow_le256 {a b : Nat} (h : a ≤ b) : (256 : Int) ^ a ≤ 256 ^ b := by
  induction h with
  | refl => exact Int.le_refl _
  | step _ ih =>
    rw [Int.pow_succ]
    have := Int.pow_nonneg (n := 256) (m := a) (by decide)
    omega
theorem scTake_range (bs : List Int) (pl : Nat) (bad : Bool) (n : Int) (hby : ∀ x ∈ bs, 0 ≤ x ∧ x ≤ 255) : 0 ≤ num (scTake bs pl bad n) ∧ num (scTake bs pl bad n) < 256 ^ n.toNat := by
  have hm : ∀ x ∈ scTake bs pl bad n, 0 ≤ x ∧ x ≤ 255 := fun x hx => by
    unfold scTake at hx
    split at hx
    · exact hby x (List.mem_of_mem_drop (List.mem_of_mem_take hx))
    · simp at hx
  have hl : (scTake bs pl bad n).length ≤ n.toNat := by
    unfold scTake
    split
    · rw [List.length_take]; omega
    · simp
  have h := num_range _ hm
  exact ⟨h.1, Int.lt_of_lt_of_le h.2 (pow_le256 hl)⟩
theorem IsScan.bytes {w : World} {base : Nat} {ok : Nat → Prop} {g : Nat} {bs : List Int} {pl : Nat} {bad : Bool} (h : IsScan w base ok g bs pl bad) : ∀ x ∈ bs, 0 ≤ x ∧ x ≤ 255 := by
  obtain ⟨v, _, _, _, _, _, h3, _⟩ := h
  exact h3
theorem IsScan.place {w : World} {base : Nat} {ok : Nat → Prop} {g : Nat} {bs : List Int} {pl : Nat} {bad : Bool} (h : IsScan w base ok g bs pl bad) : pl ≤ bs.length := by
  obtain ⟨v, _, _, _, _, h3, _⟩ := h
  exact h3

theorem shift_1 (x : Int) (h0 : 0 ≤ x) (h1 : x < 256 ^ (1 : Int).toNat) : wrap64 (wrap64 x * 72057594037927936) / 72057594037927936 = signed 1 x := by
  have e : (256 : Int) ^ (1 : Int).toNat = 256 := by decide
  have e2 : isSize 1 = true := by decide
  unfold signed
  rw [if_pos e2]
  rw [e] at h1 ⊢
  unfold wrap64
  split <;> omega
set_option maxHeartbeats 1000000 in
set_option maxRecDepth 100000 in
theorem ScInt_1 (base : Nat) (ok : Nat → Prop) (g : Nat) (bs : List Int) (pl : Nat) (bad : Bool) (w : World) (hI : IsScan w base ok g bs pl bad) :
    Calls Try.prog 112 #[.pointer (some ⟨g, 0, none⟩), .int .i64 1] w fun e w' => e = .returned (.int .i64 (signed 1 (num (scTake bs pl bad 1)))) ∧
      IsScan w' base ok g bs (scPl bs.length pl bad 1) (scBad bs.length pl bad 1) ∧ Fr (· = g) w w' := by
  have HN := Aside0.mk (ScNum base ok g bs pl bad 1 w hI)
  have HX := Aside0.mk (shift_1 _ (scTake_range bs pl bad 1 hI.bytes).1 (scTake_range bs pl bad 1 hI.bytes).2)
  rw [show sizeOr 1 = 1 from rfl] at HN
  go_enter Try.func112, Try.ntmps112
  go_wp2_with fail
  refine HN.out.mono ?_
  rintro e w1 ⟨rfl, hi, hfr⟩
  have HI := Aside0.mk hi
  have HR := Aside0.mk hfr
  clear hi hfr hI HN
  go_wp2_with (go_at_call 102; refine (sized _ _).mono ?_; rintro e w' ⟨rfl, rfl⟩; simp only [show isSize 1 = true from rfl])
  go_returns
  exact ⟨by rw [← HX.out]; rfl, HI.out, HR.out⟩

theorem shift_2 (x : Int) (h0 : 0 ≤ x) (h1 : x < 256 ^ (2 : Int).toNat) : wrap64 (wrap64 x * 281474976710656) / 281474976710656 = signed 2 x := by
  have e : (256 : Int) ^ (2 : Int).toNat = 65536 := by decide
  have e2 : isSize 2 = true := by decide
  unfold signed
  rw [if_pos e2]
  rw [e] at h1 ⊢
  unfold wrap64
  split <;> omega
set_option maxHeartbeats 1000000 in
set_option maxRecDepth 100000 in
theorem ScInt_2 (base : Nat) (ok : Nat → Prop) (g : Nat) (bs : List Int) (pl : Nat) (bad : Bool) (w : World) (hI : IsScan w base ok g bs pl bad) :
    Calls Try.prog 112 #[.pointer (some ⟨g, 0, none⟩), .int .i64 2] w fun e w' => e = .returned (.int .i64 (signed 2 (num (scTake bs pl bad 2)))) ∧
      IsScan w' base ok g bs (scPl bs.length pl bad 2) (scBad bs.length pl bad 2) ∧ Fr (· = g) w w' := by
  have HN := Aside0.mk (ScNum base ok g bs pl bad 2 w hI)
  have HX := Aside0.mk (shift_2 _ (scTake_range bs pl bad 2 hI.bytes).1 (scTake_range bs pl bad 2 hI.bytes).2)
  rw [show sizeOr 2 = 2 from rfl] at HN
  go_enter Try.func112, Try.ntmps112
  go_wp2_with fail
  refine HN.out.mono ?_
  rintro e w1 ⟨rfl, hi, hfr⟩
  have HI := Aside0.mk hi
  have HR := Aside0.mk hfr
  clear hi hfr hI HN
  go_wp2_with (go_at_call 102; refine (sized _ _).mono ?_; rintro e w' ⟨rfl, rfl⟩; simp only [show isSize 2 = true from rfl])
  go_returns
  exact ⟨by rw [← HX.out]; rfl, HI.out, HR.out⟩

theorem shift_3 (x : Int) (h0 : 0 ≤ x) (h1 : x < 256 ^ (3 : Int).toNat) : wrap64 (wrap64 x * 1099511627776) / 1099511627776 = signed 3 x := by
  have e : (256 : Int) ^ (3 : Int).toNat = 16777216 := by decide
  have e2 : isSize 3 = true := by decide
  unfold signed
  rw [if_pos e2]
  rw [e] at h1 ⊢
  unfold wrap64
  split <;> omega
set_option maxHeartbeats 1000000 in
set_option maxRecDepth 100000 in
theorem ScInt_3 (base : Nat) (ok : Nat → Prop) (g : Nat) (bs : List Int) (pl : Nat) (bad : Bool) (w : World) (hI : IsScan w base ok g bs pl bad) :
    Calls Try.prog 112 #[.pointer (some ⟨g, 0, none⟩), .int .i64 3] w fun e w' => e = .returned (.int .i64 (signed 3 (num (scTake bs pl bad 3)))) ∧
      IsScan w' base ok g bs (scPl bs.length pl bad 3) (scBad bs.length pl bad 3) ∧ Fr (· = g) w w' := by
  have HN := Aside0.mk (ScNum base ok g bs pl bad 3 w hI)
  have HX := Aside0.mk (shift_3 _ (scTake_range bs pl bad 3 hI.bytes).1 (scTake_range bs pl bad 3 hI.bytes).2)
  rw [show sizeOr 3 = 3 from rfl] at HN
  go_enter Try.func112, Try.ntmps112
  go_wp2_with fail
  refine HN.out.mono ?_
  rintro e w1 ⟨rfl, hi, hfr⟩
  have HI := Aside0.mk hi
  have HR := Aside0.mk hfr
  clear hi hfr hI HN
  go_wp2_with (go_at_call 102; refine (sized _ _).mono ?_; rintro e w' ⟨rfl, rfl⟩; simp only [show isSize 3 = true from rfl])
  go_returns
  exact ⟨by rw [← HX.out]; rfl, HI.out, HR.out⟩

theorem shift_4 (x : Int) (h0 : 0 ≤ x) (h1 : x < 256 ^ (4 : Int).toNat) : wrap64 (wrap64 x * 4294967296) / 4294967296 = signed 4 x := by
  have e : (256 : Int) ^ (4 : Int).toNat = 4294967296 := by decide
  have e2 : isSize 4 = true := by decide
  unfold signed
  rw [if_pos e2]
  rw [e] at h1 ⊢
  unfold wrap64
  split <;> omega
set_option maxHeartbeats 1000000 in
set_option maxRecDepth 100000 in
theorem ScInt_4 (base : Nat) (ok : Nat → Prop) (g : Nat) (bs : List Int) (pl : Nat) (bad : Bool) (w : World) (hI : IsScan w base ok g bs pl bad) :
    Calls Try.prog 112 #[.pointer (some ⟨g, 0, none⟩), .int .i64 4] w fun e w' => e = .returned (.int .i64 (signed 4 (num (scTake bs pl bad 4)))) ∧
      IsScan w' base ok g bs (scPl bs.length pl bad 4) (scBad bs.length pl bad 4) ∧ Fr (· = g) w w' := by
  have HN := Aside0.mk (ScNum base ok g bs pl bad 4 w hI)
  have HX := Aside0.mk (shift_4 _ (scTake_range bs pl bad 4 hI.bytes).1 (scTake_range bs pl bad 4 hI.bytes).2)
  rw [show sizeOr 4 = 4 from rfl] at HN
  go_enter Try.func112, Try.ntmps112
  go_wp2_with fail
  refine HN.out.mono ?_
  rintro e w1 ⟨rfl, hi, hfr⟩
  have HI := Aside0.mk hi
  have HR := Aside0.mk hfr
  clear hi hfr hI HN
  go_wp2_with (go_at_call 102; refine (sized _ _).mono ?_; rintro e w' ⟨rfl, rfl⟩; simp only [show isSize 4 = true from rfl])
  go_returns
  exact ⟨by rw [← HX.out]; rfl, HI.out, HR.out⟩

theorem shift_5 (x : Int) (h0 : 0 ≤ x) (h1 : x < 256 ^ (5 : Int).toNat) : wrap64 (wrap64 x * 16777216) / 16777216 = signed 5 x := by
  have e : (256 : Int) ^ (5 : Int).toNat = 1099511627776 := by decide
  have e2 : isSize 5 = true := by decide
  unfold signed
  rw [if_pos e2]
  rw [e] at h1 ⊢
  unfold wrap64
  split <;> omega
set_option maxHeartbeats 1000000 in
set_option maxRecDepth 100000 in
theorem ScInt_5 (base : Nat) (ok : Nat → Prop) (g : Nat) (bs : List Int) (pl : Nat) (bad : Bool) (w : World) (hI : IsScan w base ok g bs pl bad) :
    Calls Try.prog 112 #[.pointer (some ⟨g, 0, none⟩), .int .i64 5] w fun e w' => e = .returned (.int .i64 (signed 5 (num (scTake bs pl bad 5)))) ∧
      IsScan w' base ok g bs (scPl bs.length pl bad 5) (scBad bs.length pl bad 5) ∧ Fr (· = g) w w' := by
  have HN := Aside0.mk (ScNum base ok g bs pl bad 5 w hI)
  have HX := Aside0.mk (shift_5 _ (scTake_range bs pl bad 5 hI.bytes).1 (scTake_range bs pl bad 5 hI.bytes).2)
  rw [show sizeOr 5 = 5 from rfl] at HN
  go_enter Try.func112, Try.ntmps112
  go_wp2_with fail
  refine HN.out.mono ?_
  rintro e w1 ⟨rfl, hi, hfr⟩
  have HI := Aside0.mk hi
  have HR := Aside0.mk hfr
  clear hi hfr hI HN
  go_wp2_with (go_at_call 102; refine (sized _ _).mono ?_; rintro e w' ⟨rfl, rfl⟩; simp only [show isSize 5 = true from rfl])
  go_returns
  exact ⟨by rw [← HX.out]; rfl, HI.out, HR.out⟩

theorem shift_6 (x : Int) (h0 : 0 ≤ x) (h1 : x < 256 ^ (6 : Int).toNat) : wrap64 (wrap64 x * 65536) / 65536 = signed 6 x := by
  have e : (256 : Int) ^ (6 : Int).toNat = 281474976710656 := by decide
  have e2 : isSize 6 = true := by decide
  unfold signed
  rw [if_pos e2]
  rw [e] at h1 ⊢
  unfold wrap64
  split <;> omega
set_option maxHeartbeats 1000000 in
set_option maxRecDepth 100000 in
theorem ScInt_6 (base : Nat) (ok : Nat → Prop) (g : Nat) (bs : List Int) (pl : Nat) (bad : Bool) (w : World) (hI : IsScan w base ok g bs pl bad) :
    Calls Try.prog 112 #[.pointer (some ⟨g, 0, none⟩), .int .i64 6] w fun e w' => e = .returned (.int .i64 (signed 6 (num (scTake bs pl bad 6)))) ∧
      IsScan w' base ok g bs (scPl bs.length pl bad 6) (scBad bs.length pl bad 6) ∧ Fr (· = g) w w' := by
  have HN := Aside0.mk (ScNum base ok g bs pl bad 6 w hI)
  have HX := Aside0.mk (shift_6 _ (scTake_range bs pl bad 6 hI.bytes).1 (scTake_range bs pl bad 6 hI.bytes).2)
  rw [show sizeOr 6 = 6 from rfl] at HN
  go_enter Try.func112, Try.ntmps112
  go_wp2_with fail
  refine HN.out.mono ?_
  rintro e w1 ⟨rfl, hi, hfr⟩
  have HI := Aside0.mk hi
  have HR := Aside0.mk hfr
  clear hi hfr hI HN
  go_wp2_with (go_at_call 102; refine (sized _ _).mono ?_; rintro e w' ⟨rfl, rfl⟩; simp only [show isSize 6 = true from rfl])
  go_returns
  exact ⟨by rw [← HX.out]; rfl, HI.out, HR.out⟩

theorem shift_7 (x : Int) (h0 : 0 ≤ x) (h1 : x < 256 ^ (7 : Int).toNat) : wrap64 (wrap64 x * 256) / 256 = signed 7 x := by
  have e : (256 : Int) ^ (7 : Int).toNat = 72057594037927936 := by decide
  have e2 : isSize 7 = true := by decide
  unfold signed
  rw [if_pos e2]
  rw [e] at h1 ⊢
  unfold wrap64
  split <;> omega
set_option maxHeartbeats 1000000 in
set_option maxRecDepth 100000 in
theorem ScInt_7 (base : Nat) (ok : Nat → Prop) (g : Nat) (bs : List Int) (pl : Nat) (bad : Bool) (w : World) (hI : IsScan w base ok g bs pl bad) :
    Calls Try.prog 112 #[.pointer (some ⟨g, 0, none⟩), .int .i64 7] w fun e w' => e = .returned (.int .i64 (signed 7 (num (scTake bs pl bad 7)))) ∧
      IsScan w' base ok g bs (scPl bs.length pl bad 7) (scBad bs.length pl bad 7) ∧ Fr (· = g) w w' := by
  have HN := Aside0.mk (ScNum base ok g bs pl bad 7 w hI)
  have HX := Aside0.mk (shift_7 _ (scTake_range bs pl bad 7 hI.bytes).1 (scTake_range bs pl bad 7 hI.bytes).2)
  rw [show sizeOr 7 = 7 from rfl] at HN
  go_enter Try.func112, Try.ntmps112
  go_wp2_with fail
  refine HN.out.mono ?_
  rintro e w1 ⟨rfl, hi, hfr⟩
  have HI := Aside0.mk hi
  have HR := Aside0.mk hfr
  clear hi hfr hI HN
  go_wp2_with (go_at_call 102; refine (sized _ _).mono ?_; rintro e w' ⟨rfl, rfl⟩; simp only [show isSize 7 = true from rfl])
  go_returns
  exact ⟨by rw [← HX.out]; rfl, HI.out, HR.out⟩

theorem shift_8 (x : Int) (h0 : 0 ≤ x) (h1 : x < 256 ^ (8 : Int).toNat) : wrap64 (wrap64 x) = signed 8 x := by
  have e : (256 : Int) ^ (8 : Int).toNat = 18446744073709551616 := by decide
  have e2 : isSize 8 = true := by decide
  unfold signed
  rw [if_pos e2]
  rw [e] at h1 ⊢
  unfold wrap64
  split <;> omega
set_option maxHeartbeats 1000000 in
set_option maxRecDepth 100000 in
theorem ScInt_8 (base : Nat) (ok : Nat → Prop) (g : Nat) (bs : List Int) (pl : Nat) (bad : Bool) (w : World) (hI : IsScan w base ok g bs pl bad) :
    Calls Try.prog 112 #[.pointer (some ⟨g, 0, none⟩), .int .i64 8] w fun e w' => e = .returned (.int .i64 (signed 8 (num (scTake bs pl bad 8)))) ∧
      IsScan w' base ok g bs (scPl bs.length pl bad 8) (scBad bs.length pl bad 8) ∧ Fr (· = g) w w' := by
  have HN := Aside0.mk (ScNum base ok g bs pl bad 8 w hI)
  have HX := Aside0.mk (shift_8 _ (scTake_range bs pl bad 8 hI.bytes).1 (scTake_range bs pl bad 8 hI.bytes).2)
  rw [show sizeOr 8 = 8 from rfl] at HN
  go_enter Try.func112, Try.ntmps112
  go_wp2_with fail
  refine HN.out.mono ?_
  rintro e w1 ⟨rfl, hi, hfr⟩
  have HI := Aside0.mk hi
  have HR := Aside0.mk hfr
  clear hi hfr hI HN
  go_wp2_with (go_at_call 102; refine (sized _ _).mono ?_; rintro e w' ⟨rfl, rfl⟩; simp only [show isSize 8 = true from rfl])
  go_returns
  exact ⟨by rw [← HX.out]; rfl, HI.out, HR.out⟩

set_option maxHeartbeats 1000000 in
set_option maxRecDepth 100000 in
theorem ScInt (base : Nat) (ok : Nat → Prop) (g : Nat) (bs : List Int) (pl : Nat) (bad : Bool) (n : Int) (w : World) (hI : IsScan w base ok g bs pl bad) :
    Calls Try.prog 112 #[.pointer (some ⟨g, 0, none⟩), .int .i64 n] w fun e w' => e = .returned (.int .i64 (signed n (num (scTake bs pl bad (sizeOr n))))) ∧
      IsScan w' base ok g bs (scPl bs.length pl bad (sizeOr n)) (scBad bs.length pl bad (sizeOr n)) ∧ Fr (· = g) w w' := by
  cases hs : isSize n with
  | true =>
    rw [sizeOr_yes hs]
    have hs' : 1 ≤ n ∧ n ≤ 8 := by simpa [isSize] using hs
    have hk : n = 1 ∨ n = 2 ∨ n = 3 ∨ n = 4 ∨ n = 5 ∨ n = 6 ∨ n = 7 ∨ n = 8 := by omega
    rcases hk with rfl | rfl | rfl | rfl | rfl | rfl | rfl | rfl
    · exact ScInt_1 base ok g bs pl bad w hI
    · exact ScInt_2 base ok g bs pl bad w hI
    · exact ScInt_3 base ok g bs pl bad w hI
    · exact ScInt_4 base ok g bs pl bad w hI
    · exact ScInt_5 base ok g bs pl bad w hI
    · exact ScInt_6 base ok g bs pl bad w hI
    · exact ScInt_7 base ok g bs pl bad w hI
    · exact ScInt_8 base ok g bs pl bad w hI
  | false =>
    have HN := Aside0.mk (ScNum base ok g bs pl bad n w hI)
    have HX := Aside0.mk (show signed n (num (scTake bs pl bad (sizeOr n))) = 0 by unfold signed; rw [if_neg (by rw [hs]; decide)])
    have HS := Aside0.mk hs
    clear hs
    go_enter Try.func112, Try.ntmps112
    go_wp2_with fail
    refine HN.out.mono ?_
    rintro e w1 ⟨rfl, hi, hfr⟩
    have HI := Aside0.mk hi
    have HR := Aside0.mk hfr
    clear hi hfr hI HN
    go_wp2_with (go_at_call 102; refine (sized _ _).mono ?_; rintro e w' ⟨rfl, rfl⟩; simp only [HS.out])
    go_returns
    exact ⟨by rw [HX.out]; rfl, HI.out, HR.out⟩

theorem scTake_yes {bs : List Int} {pl : Nat} {bad : Bool} {n : Nat} (h : fits bs.length pl bad n = true) : scTake bs pl bad n = (bs.drop pl).take n := by unfold scTake; rw [h, if_pos rfl, Int.toNat_natCast]
theorem scTake_no {bs : List Int} {pl : Nat} {bad : Bool} {n : Int} (h : fits bs.length pl bad n = false) : scTake bs pl bad n = [] := by unfold scTake; rw [h]; rfl
theorem scPl_yes {len pl : Nat} {bad : Bool} {n : Nat} (h : fits len pl bad n = true) : scPl len pl bad n = pl + n := by unfold scPl; rw [h, if_pos rfl, Int.toNat_natCast]
theorem scPl_no {len pl : Nat} {bad : Bool} {n : Int} (h : fits len pl bad n = false) : scPl len pl bad n = pl := by unfold scPl; rw [h]; rfl
theorem scBad_yes {len pl : Nat} {bad : Bool} {n : Int} (h : fits len pl bad n = true) : scBad len pl bad n = false := by unfold scBad; rw [h]; rfl
theorem scBad_no {len pl : Nat} {bad : Bool} {n : Int} (h : fits len pl bad n = false) : scBad len pl bad n = true := by unfold scBad; rw [h]; rfl
theorem fits_yes (bs : List Int) (pl m : Nat) (h : m ≤ bs.length - pl) (hp : pl ≤ bs.length) : fits bs.length pl false m = true := by
  rw [fits_iff]; exact ⟨rfl, by omega, by omega⟩
theorem fits_no (len pl : Nat) (m : Int) (h : (len : Int) - pl < m) : fits len pl false m = false := by
  cases hf : fits len pl false m with
  | false => rfl
  | true => have := (fits_iff _ _ _ _).1 hf; omega
theorem fits_bad (len pl : Nat) (m : Int) : fits len pl true m = false := by simp [fits]
theorem IsScan.ok_g {w : World} {base : Nat} {ok : Nat → Prop} {g : Nat} {bs : List Int} {pl : Nat} {bad : Bool} (h : IsScan w base ok g bs pl bad) : ok g := by
  obtain ⟨v, _, _, h3, _⟩ := h
  exact h3
theorem IsScan.ge {w : World} {base : Nat} {ok : Nat → Prop} {g : Nat} {bs : List Int} {pl : Nat} {bad : Bool} (h : IsScan w base ok g bs pl bad) : base ≤ g := by
  obtain ⟨v, _, h2, _⟩ := h
  exact h2
end

end Go.Proofs.Ytngjaaldidmgjaa.G
