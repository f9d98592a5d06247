/- What a scan's methods tell: Num, Int, Bytes, Left, Place, Bad, and Read, over the seat's translation. -/
import Derived.Test.YtngjaaldidmgjaaG2
import Derived.Laws.BitsLemmas
namespace Go.Proofs.Ytngjaaldidmgjaa.G
open Go.RowKit Go.Proofs.YtngjaaldidmgjaaW.PrintWords Go.Proofs.YtngjaaldidmgjaaW.PrintLast Go.Proofs.YtngjaaldidmgjaaW.PrintMore
set_option linter.unusedVariables false
set_option linter.unusedSimpArgs false

/-- The number of bytes. -/
def num (l : List Int) : Int := l.foldl (fun x c => x * 256 + c) 0
theorem num_snoc (l : List Int) (c : Int) : num (l ++ [c]) = num l * 256 + c := by simp [num]
theorem num_range0 (l : List Int) (h : ∀ x ∈ l, 0 ≤ x ∧ x ≤ 255) : ∀ a : Int, 0 ≤ a → 0 ≤ l.foldl (fun x c => x * 256 + c) a ∧ l.foldl (fun x c => x * 256 + c) a < (a + 1) * 256 ^ l.length := by
  induction l with
  | nil => intro a ha; simp; omega
  | cons c l ih =>
    intro a ha
    have h2 := h c (by simp)
    have h1 := ih (fun x hx => h x (by simp [hx])) (a * 256 + c) (by omega)
    refine ⟨h1.1, Int.lt_of_lt_of_le h1.2 ?_⟩
    rw [List.length_cons, Int.pow_succ, Int.mul_comm (256 ^ l.length) 256, ← Int.mul_assoc]
    exact Int.mul_le_mul_of_nonneg_right (by omega) (Int.pow_nonneg (by decide))
theorem num_range (l : List Int) (h : ∀ x ∈ l, 0 ≤ x ∧ x ≤ 255) : 0 ≤ num l ∧ num l < 256 ^ l.length := by
  have := num_range0 l h 0 (by decide)
  simpa [num] using this
theorem or_byte (x c : Int) (h0 : 0 ≤ x) (h1 : x < 72057594037927936) (h2 : 0 ≤ c) (h3 : c ≤ 255) : bits .or .u64 (IntKind.u64.wrap (x * 256)) (IntKind.u64.wrap c) = x * 256 + c := by
  rw [IntWalk.u64_in _ (by omega), IntWalk.u64_in _ (by omega)]
  exact bits_join .u64 64 (by decide) (fun n h h' => IntWalk.u64_in _ (by omega)) 8 (x * 256) c (by omega) (by omega) (by omega) h2 (by omega) (by omega)
theorem num_step (l : List Int) (k : Nat) (hl : l.length ≤ 8) (hby : ∀ x ∈ l, 0 ≤ x ∧ x ≤ 255) (h : k < l.length) :
    bits .or .u64 (IntKind.u64.wrap (num (l.take k) * 256)) (IntKind.u64.wrap (rd l k)) = num (l.take (k + 1)) := by
  have h1 := num_range (l.take k) (fun x hx => hby x (List.mem_of_mem_take hx))
  have h2 : (rd l k) ∈ l := by rw [rd_at l k h]; exact List.getElem_mem h
  have h3 := hby _ h2
  rw [take_snoc l k h, num_snoc]
  refine or_byte _ _ h1.1 (Int.lt_of_lt_of_le h1.2 ?_) h3.1 h3.2
  rw [List.length_take, Nat.min_eq_left (by omega)]
  have hk : k = 0 ∨ k = 1 ∨ k = 2 ∨ k = 3 ∨ k = 4 ∨ k = 5 ∨ k = 6 ∨ k = 7 := by omega
  rcases hk with rfl | rfl | rfl | rfl | rfl | rfl | rfl | rfl <;> decide

set_option maxHeartbeats 1000000 in
set_option maxRecDepth 100000 in
theorem num1 (A : Option Addr) (n c : Nat) (l : List Int) (B : Nat) (w : World) (hl : l.length ≤ 8) (hby : ∀ x ∈ l, 0 ≤ x ∧ x ≤ 255) (hr : Kd.C (Kd.int .u8) w A l.length l)
    (hB : w.heap[B]? = some (.cells #[.int .u64 0] 24 (0, 0))) (hne : ∀ ad, A = some ad → ad.block ≠ B) :
    Calls Try.prog 105 #[.slice A l.length c, .pointer (some ⟨B, 0, none⟩)] w fun e w' => e = .returned (.tuple #[]) ∧ w'.heap[B]? = some (.cells #[.int .u64 (num l)] 24 (0, 0)) ∧ Fr (· = B) w w' := by
  have HR := Aside0.mk hr
  have HBy := Aside0.mk hby
  have HB := Aside0.mk hB
  have HN := Aside0.mk hne
  clear hr hby hB hne
  go_enter Try.func105, Try.ntmps105
  go_wp2
  go_loopw [4, 7] (fun v4 i wr => ∃ k : Nat, k ≤ l.length ∧ i = .int .i64 k ∧ Aside0 (wr.heap[B]? = some (.cells #[.int .u64 (num (l.take k))] 24 (0, 0)) ∧ Fr (· = B) w wr)) (fun _ i _ => l.length - (intOf i).toNat)
  case atStart => exact ⟨0, Nat.zero_le _, rfl, ⟨by simpa [num] using HB.out, Fr.refl _ _⟩⟩
  case round =>
    obtain ⟨k, hk, rfl, HW⟩ := hrel
    by_cases hlt : k < l.length
    · have q1 : wr.cell? ⟨B, 0, none⟩ = some (.int .u64 (num (l.take k))) := (blk_cell HW.out.1 0).trans rfl
      have f1 : wr.frozen? ⟨B, 0, none⟩ = false := blk_frozen HW.out.1 0
      obtain ⟨ad, hA, hc⟩ := Kd.at_int HR.out k (by omega) (by omega)
      subst hA
      have hc2 : wr.cell? (ad.add k) = some (.int .u8 (rd l k)) := HW.out.2.cell hc (fun e => HN.out ad rfl (by rw [block_add] at e; exact e))
      clear hc
      have HS := Aside0.mk (num_step l k hl HBy.out hlt)
      go_wp2
      rw [HS.out]
      go_roundw
      case rel => exact ⟨k + 1, hlt, by go_num, ⟨by simpa using blk_set HW.out.1 0 _, HW.out.2.setCell (.inl rfl) _⟩⟩
      case measure => simp [intOf]; omega
    · obtain rfl : k = l.length := by omega
      go_wp2
      go_returns
      have := HW.out.1
      rw [List.take_length] at this
      exact ⟨rfl, this, HW.out.2⟩


/-- Does what is asked for lie in what is left? -/
def fits (len pl : Nat) (bad : Bool) (n : Int) : Bool := !bad && decide (0 ≤ n) && decide (n ≤ (len : Int) - pl)
def scPl (len pl : Nat) (bad : Bool) (n : Int) : Nat := if fits len pl bad n then pl + n.toNat else pl
def scBad (len pl : Nat) (bad : Bool) (n : Int) : Bool := !fits len pl bad n
def scTake (bs : List Int) (pl : Nat) (bad : Bool) (n : Int) : List Int := if fits bs.length pl bad n then (bs.drop pl).take n.toNat else []
def sizeOr (n : Int) : Int := if 1 ≤ n ∧ n ≤ 8 then n else -1
theorem fits_iff (len pl : Nat) (bad : Bool) (n : Int) : fits len pl bad n = true ↔ bad = false ∧ 0 ≤ n ∧ n ≤ (len : Int) - pl := by
  unfold fits; cases bad <;> simp

set_option maxHeartbeats 1000000 in
set_option maxRecDepth 100000 in
theorem bytes1 (A : Option Addr) (c : Nat) (l : List Int) (B : Nat) (w : World) (hl : l.length < 140737488355328) (hlc : l.length ≤ c) (hr : Kd.C (Kd.int .u8) w A l.length l)
    (hB : w.heap[B]? = some (.cells #[.slice none 0 0] 30 (0, 0))) :
    Calls Try.prog 104 #[.slice A l.length c, .pointer (some ⟨B, 0, none⟩)] w fun e w' => e = .returned (.tuple #[]) ∧ (∃ v, w'.heap[B]? = some (.cells #[v] 30 (0, 0)) ∧ Kd.R (Kd.int .u8) 5 w' w.heap.size (fun _ => True) v l) ∧ Fr (· = B) w w' := by
  have hf : slices_Clone.f l = some l := by unfold slices_Clone.f; rw [if_pos hl]
  have HC := Aside0.mk (slices_Clone.calls A c l l w hr hlc hf)
  have HB := Aside0.mk hB
  clear hr hB hf
  go_enter Try.func104, Try.ntmps104
  go_wp2_with fail
  refine HC.out.mono ?_
  rintro e w1 ⟨v, rfl, hv, hb⟩
  have q1 := blk_below HB.out hb
  have c1 : w1.cell? ⟨B, 0, none⟩ = some (.slice none 0 0) := (blk_cell q1 0).trans rfl
  have f1 : w1.frozen? ⟨B, 0, none⟩ = false := blk_frozen q1 0
  obtain ⟨A', c', rfl⟩ := Kd.R_slice hv
  have HV := Aside0.mk hv
  have HBl := Aside0.mk hb
  have HQ := Aside0.mk q1
  clear hv hb q1
  go_wp2_with fail
  go_returns
  refine ⟨rfl, ⟨_, by simpa using blk_set HQ.out 0 (.slice A' l.length c'), ?_⟩, (Fr.of_below (S := (· = B)) HBl.out).setCell (p := ⟨B, 0, none⟩) (.inl rfl) _⟩
  exact Kd.R_set HV.out HQ.out (by decide) 0 _

set_option maxHeartbeats 1000000 in
theorem off_num (base : Nat) (ok : Nat → Prop) (g : Nat) (bs : List Int) (pl : Nat) (bad : Bool) (n : Int) (B : Nat) (w : World) (hI : IsScan w base ok g bs pl bad) (h8 : n ≤ 8) (hok : ¬ ok B)
    (hB : w.heap[B]? = some (.cells #[.int .u64 0] 24 (0, 0))) :
    Calls Try.prog 103 #[.pointer (some ⟨g, 0, none⟩), .int .i64 n, .func (.func 105) #[] #[.pointer (some ⟨B, 0, none⟩)]] w fun e w' => e = .returned (.tuple #[]) ∧
      (w'.heap[B]? = some (.cells #[.int .u64 (num (scTake bs pl bad n))] 24 (0, 0)) ∧ IsScan w' base ok g bs (scPl bs.length pl bad n) (scBad bs.length pl bad n) ∧ Fr (fun k => k = g ∨ k = B) w w') := by
  have hgB : g ≠ B := fun e => by
    subst e
    obtain ⟨v, hb, _⟩ := hI
    rw [hb] at hB
    injection hB with hB
    injection hB with _ h
    exact absurd h (by decide)
  by_cases hf : fits bs.length pl bad n = true
  · have hf' := (fits_iff _ _ _ _).1 hf
    obtain ⟨rfl, h0, h1⟩ := hf'
    obtain ⟨m, rfl⟩ := Int.eq_ofNat_of_zero_le h0
    simp only [scPl, scBad, scTake, hf, if_true, Int.toNat_natCast]
    refine off_yes base ok g bs pl m 105 (.pointer (some ⟨B, 0, none⟩)) w (fun w' => w'.heap[B]? = some (.cells #[.int .u64 (num ((bs.drop pl).take m))] 24 (0, 0)) ∧ IsScan w' base ok g bs (pl + m) (!true) ∧ Fr (fun k => k = g ∨ k = B) w w') hI (by omega)
      (enters_ Try.func105 (by kernel_rfl) rfl) ?_
    intro A w1 hI1 hfr _ hC hty
    have hB1 := hfr.blk hB (fun e => hgB e.symm)
    have hlen : ((bs.drop pl).take m).length = m := by rw [List.length_take, List.length_drop]; omega
    have hby : ∀ x ∈ (bs.drop pl).take m, 0 ≤ x ∧ x ≤ 255 := fun x hx => by
      obtain ⟨v, _, _, _, _, _, h3, _⟩ := hI
      exact h3 x (List.mem_of_mem_drop (List.mem_of_mem_take hx))
    have := num1 A 0 m ((bs.drop pl).take m) B w1 (by omega) hby (by rw [hlen]; exact hC) hB1 (fun ad hA e => by
      obtain ⟨cs, hcs⟩ := hty ad hA
      rw [e, hB1] at hcs
      injection hcs with hcs
      injection hcs with _ h
      exact absurd h (by decide))
    rw [hlen] at this
    refine this.mono ?_
    rintro e w2 ⟨rfl, hq, hfr2⟩
    exact ⟨rfl, hq, hI1.fr hfr2 (fun k hk e => by subst e; exact hok hk), (hfr.mono (fun k h => .inl h)).trans (hfr2.mono (fun k h => .inr h))⟩
  · have hf2 : fits bs.length pl bad n = false := by simpa using hf
    simp only [scPl, scBad, scTake, hf2, if_false, Bool.not_false, Bool.false_eq_true]
    cases bad with
    | true =>
      refine (off_bad base ok g bs pl n _ w hI).mono ?_
      rintro e w1 ⟨rfl, rfl⟩
      exact ⟨rfl, hB, hI, Fr.refl _ _⟩
    | false =>
      refine (off_no base ok g bs pl n _ w hI ?_).mono ?_
      · have : ¬ (false = false ∧ 0 ≤ n ∧ n ≤ (bs.length : Int) - pl) := fun h => hf ((fits_iff _ _ _ _).2 h)
        simp only [true_and] at this
        omega
      · rintro e w1 ⟨rfl, hI1, hfr⟩
        exact ⟨rfl, hfr.blk hB (fun e => hgB e.symm), hI1, hfr.mono (fun k h => .inl h)⟩

set_option maxHeartbeats 1000000 in
theorem off_bytes (base : Nat) (ok : Nat → Prop) (g : Nat) (bs : List Int) (pl : Nat) (bad : Bool) (n : Int) (B : Nat) (w : World) (hI : IsScan w base ok g bs pl bad) (hok : ¬ ok B)
    (hB : w.heap[B]? = some (.cells #[.slice none 0 0] 30 (0, 0))) :
    Calls Try.prog 103 #[.pointer (some ⟨g, 0, none⟩), .int .i64 n, .func (.func 104) #[] #[.pointer (some ⟨B, 0, none⟩)]] w fun e w' => e = .returned (.tuple #[]) ∧
      ((∃ v, w'.heap[B]? = some (.cells #[v] 30 (0, 0)) ∧ Kd.R (Kd.int .u8) 5 w' w.heap.size (fun _ => True) v (scTake bs pl bad n)) ∧ IsScan w' base ok g bs (scPl bs.length pl bad n) (scBad bs.length pl bad n) ∧ Fr (fun k => k = g ∨ k = B) w w') := by
  have hgB : g ≠ B := fun e => by
    subst e
    obtain ⟨v, hb, _⟩ := hI
    rw [hb] at hB
    injection hB with hB
    injection hB with _ h
    exact absurd h (by decide)
  by_cases hf : fits bs.length pl bad n = true
  · have hf' := (fits_iff _ _ _ _).1 hf
    obtain ⟨rfl, h0, h1⟩ := hf'
    obtain ⟨m, rfl⟩ := Int.eq_ofNat_of_zero_le h0
    simp only [scPl, scBad, scTake, hf, if_true, Int.toNat_natCast]
    refine off_yes base ok g bs pl m 104 (.pointer (some ⟨B, 0, none⟩)) w (fun w' => (∃ v, w'.heap[B]? = some (.cells #[v] 30 (0, 0)) ∧ Kd.R (Kd.int .u8) 5 w' w.heap.size (fun _ => True) v ((bs.drop pl).take m)) ∧ IsScan w' base ok g bs (pl + m) (!true) ∧ Fr (fun k => k = g ∨ k = B) w w') hI (by omega)
      (enters_ Try.func104 (by kernel_rfl) rfl) ?_
    intro A w1 hI1 hfr _ hC hty
    have hB1 := hfr.blk hB (fun e => hgB e.symm)
    have hlen : ((bs.drop pl).take m).length = m := by rw [List.length_take, List.length_drop]; omega
    have h4 : bs.length ≤ 140737488355327 := by
      obtain ⟨v, _, _, _, _, _, _, h4⟩ := hI
      exact h4
    have := bytes1 A m ((bs.drop pl).take m) B w1 (by omega) (by omega) (by rw [hlen]; exact hC) hB1
    rw [hlen] at this
    refine this.mono ?_
    rintro e w2 ⟨rfl, ⟨v, hq, hv⟩, hfr2⟩
    exact ⟨rfl, ⟨v, hq, Kd.R_lower hv hfr.size⟩, hI1.fr hfr2 (fun k hk e => by subst e; exact hok hk), (hfr.mono (fun k h => .inl h)).trans (hfr2.mono (fun k h => .inr h))⟩
  · have hf2 : fits bs.length pl bad n = false := by simpa using hf
    simp only [scPl, scBad, scTake, hf2, if_false, Bool.not_false, Bool.false_eq_true]
    cases bad with
    | true =>
      refine (off_bad base ok g bs pl n _ w hI).mono ?_
      rintro e w1 ⟨rfl, rfl⟩
      exact ⟨rfl, ⟨_, hB, Kd.R_nil _ _ _ _ _⟩, hI, Fr.refl _ _⟩
    | false =>
      refine (off_no base ok g bs pl n _ w hI ?_).mono ?_
      · have : ¬ (false = false ∧ 0 ≤ n ∧ n ≤ (bs.length : Int) - pl) := fun h => hf ((fits_iff _ _ _ _).2 h)
        simp only [true_and] at this
        omega
      · rintro e w1 ⟨rfl, hI1, hfr⟩
        exact ⟨rfl, ⟨_, hfr.blk hB (fun e => hgB e.symm), Kd.R_nil _ _ _ _ _⟩, hI1, hfr.mono (fun k h => .inl h)⟩

end Go.Proofs.Ytngjaaldidmgjaa.G
