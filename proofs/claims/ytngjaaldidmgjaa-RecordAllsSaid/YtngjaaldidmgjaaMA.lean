/- Frames: a world is as another was but for the blocks of S and what is new since; no program's text is spoken of. Contracts of slices.Clone at bytes, over the seat's translation: for every slice that reads as a list. The first place at which something holds: plain. Contracts of vec.Check, and of slices.IndexFunc, slices.ContainsFunc over whole numbers, whatever the closure. -/
import Derived.Test.YtngjaaldidmgjaaWWords
import Derived.Test.YtngjaaldidmgjaaWLast
import Derived.Test.YtngjaaldidmgjaaWKept
import Derived.Test.YtngjaaldidmgjaaWMore
import Derived.Test.YtngjaaldidmgjaaProg
import Derived.Lib.SliceRun
import Derived.Shelf.Abstract
import Derived.Deep.LoopGhost
import Derived.Deep.QuietTactic
import Derived.BigQuiet
import Derived.WalkKit
import Derived.Handy
import Derived.RegionTactic
import Derived.ChangeAlike
import Derived.WalkSpells
namespace Go.Proofs.Ytngjaaldidmgjaa.G

section
open Go.RowKit Go.Proofs.YtngjaaldidmgjaaW.PrintWords Go.Proofs.YtngjaaldidmgjaaW.PrintLast Go.Proofs.YtngjaaldidmgjaaW.PrintMore

/-- w' is w but for the blocks of S, and what is new since. -/
structure Fr (S : Nat → Prop) (w w' : World) : Prop where
  os : w'.os = w.os
  tape : w'.tape = w.tape
  output : w'.output = w.output
  kept : Kept w w' S

section
variable {S S' : Nat → Prop} {w w1 w2 : World}
theorem Fr.refl (S : Nat → Prop) (w : World) : Fr S w w := ⟨rfl, rfl, rfl, Kept.refl _ _⟩
theorem Fr.size (h : Fr S w w1) : w.heap.size ≤ w1.heap.size := h.kept.1
theorem Fr.block (h : Fr S w w1) {k : Nat} (hk : k < w.heap.size) (hs : ¬ S k) : w1.heap[k]? = w.heap[k]? := h.kept.2 k hk hs
theorem Fr.then_ (h : Fr S w w1) (k : Fr S' w1 w2) (hs : ∀ k, S' k → S k ∨ w.heap.size ≤ k) : Fr S w w2 :=
  ⟨k.os.trans h.os, k.tape.trans h.tape, k.output.trans h.output, h.kept.then_ k.kept hs⟩
theorem Fr.trans (h : Fr S w w1) (k : Fr S w1 w2) : Fr S w w2 := h.then_ k (fun _ h => .inl h)
theorem Fr.mono (h : Fr S w w1) (hs : ∀ k, S k → S' k) : Fr S' w w1 := ⟨h.os, h.tape, h.output, h.kept.mono hs⟩
theorem Fr.of_below (h : Below w.heap.size w w1) : Fr S w w1 := ⟨h.os, h.tape, h.output, Kept.of_below h S⟩
theorem Fr.below (h : Fr S w w1) (k : Below w1.heap.size w1 w2) : Fr S w w2 := h.trans (Fr.of_below k)
theorem Fr.of_grown {row : Option Nat} (h : w.grownBy w1 row) (hr : ∀ k, row = some k → S k ∨ w.heap.size ≤ k) : Fr S w w1 :=
  ⟨h.os, h.tape, h.output, Kept.of_grown h (Kept.refl w S) hr⟩
theorem Fr.grown {row : Option Nat} (h : Fr S w w1) (k : w1.grownBy w2 row) (hr : ∀ k, row = some k → S k ∨ w.heap.size ≤ k) : Fr S w w2 :=
  ⟨k.os.trans h.os, k.tape.trans h.tape, k.output.trans h.output, Kept.of_grown k h.kept hr⟩
theorem Fr.alloc (h : Fr S w w1) (o : Obj) : Fr S w (w1.alloc o) := ⟨h.os, h.tape, h.output, h.kept.alloc o⟩
theorem Fr.drew (h : Fr S w w1) : Fr S w w1.drew := ⟨h.os, h.tape, h.output, h.kept.drew⟩
theorem Fr.drewN (h : Fr S w w1) (m : Nat) : Fr S w (w1.drewN m) := ⟨h.os, h.tape, h.output, h.kept.drewN m⟩
theorem Fr.setCell (h : Fr S w w1) {p : Addr} (hp : S p.block ∨ w.heap.size ≤ p.block) (u : Value) : Fr S w (w1.setCell p u) := ⟨h.os, h.tape, h.output, h.kept.setCell hp u⟩
/-- What is written lies from base on: below that all is as it was. -/
theorem Fr.toBelow {base : Nat} (h : Fr S w w1) (hb : base ≤ w.heap.size) (hs : ∀ k, S k → base ≤ k) : Below base w w1 :=
  ⟨h.os, h.tape, h.output, h.size, fun k hk => h.block (Nat.lt_of_lt_of_le hk hb) (fun e => by have := hs k e; omega)⟩
theorem Fr.no (h : Fr (fun _ => False) w w1) : Below w.heap.size w w1 := h.toBelow (Nat.le_refl _) (fun _ h => h.elim)
theorem Fr.blk {g : Nat} {o : Obj} (h : Fr S w w1) (hb : w.heap[g]? = some o) (hs : ¬ S g) : w1.heap[g]? = some o := blk_kept hb h.kept hs
theorem Fr.cell {a : Addr} {v : Value} (h : Fr S w w1) (hc : w.cell? a = some v) (hs : ¬ S a.block) : w1.cell? a = some v := cell_kept hc h.kept hs
end

theorem block_add (a : Addr) (k : Nat) : (a.add k).block = a.block := by unfold Addr.add; split <;> rfl
theorem C_sub {α : Type} {k : Kd α} {w : World} {ad : Addr} {xs : List α} {lo n : Nat} (h : k.C w (some ad) xs.length xs) (hm : lo + n ≤ xs.length) : k.C w (some (ad.add (lo * k.sz))) n ((xs.drop lo).take n) := by
  have h1 := Kd.C_drop (c := xs.length + 1) (m := lo) h (by omega) (by omega)
  rw [if_neg (by omega)] at h1
  have h2 := Kd.C_take (m := n) h1 (by simp; omega)
  rw [List.length_take, List.length_drop, Nat.min_eq_left (by omega)] at h2
  exact h2
theorem rd_at (l : List Int) (k : Nat) (h : k < l.length) : rd l k = l[k] := by
  unfold rd
  rw [Int.toNat_natCast, List.getD_eq_getElem?_getD, List.getElem?_eq_getElem h]
  rfl
theorem take_snoc (l : List Int) (k : Nat) (h : k < l.length) : l.take (k + 1) = l.take k ++ [rd l k] := by
  rw [List.take_succ_eq_append_getElem h]
  rw [rd_at l k h]
/-- A row of numbers that was just laid. -/
theorem C_lit (k : IntKind) (w : World) (l : List Int) (e : TypeId) (hl : l.length ≤ 9223372036854775807) : Kd.C (Kd.int k) (w.alloc (.cells (l.map (Value.int k)).toArray e)) (some ⟨w.heap.size, 0, none⟩) l.length l := by
  refine Kd.C_of_reads (d := (0 : Int)) (h1 := fun _ => rfl) ⟨rfl, hl, fun _ => ⟨_, rfl, fun j hj => ?_⟩⟩
  rw [add_plain, blk_cell (heap_alloc_new w _)]
  simp [List.getD_eq_getElem?_getD, hj]
end

section
open Go.RowKit Go.Proofs.YtngjaaldidmgjaaW.PrintWords Go.Proofs.YtngjaaldidmgjaaW.PrintLast Go.Proofs.YtngjaaldidmgjaaW.PrintMore
set_option linter.unusedVariables false
set_option linter.unusedSimpArgs false

theorem info_u8 : (Try.prog.info? 5).map (fun i => (i.zero, i.size, i.bytes)) = some (some (.int .u8 0), 1, 1) := by kernel_rfl

def slices_Clone.f (l0 : List Int) : Option (List Int) := if l0.length < 140737488355328 then some l0 else none

set_option maxHeartbeats 1000000 in
set_option maxRecDepth 100000 in
theorem slices_Clone.calls (A0 : Option Addr) (c0 : Nat) (l0 : List Int) (r : List Int) (w : World) (hr0 : Kd.C (Kd.int .u8) w A0 l0.length l0) (hc0 : l0.length ≤ c0) (h : slices_Clone.f l0 = some r) :
    Calls Try.prog 45 #[.slice A0 l0.length c0] w fun e w' => ∃ v0_ : Value, e = .returned (v0_) ∧ Kd.R (Kd.int .u8) 5 w' w.heap.size (fun _ => True) v0_ r ∧ Below w.heap.size w w' := by
  unfold slices_Clone.f at h
  split at h
  case isFalse => cases h
  case isTrue c4 =>
  obtain rfl := Option.some.inj h
  clear h
  have LMc4 := Aside0.mk c4
  have HR0 := Aside0.mk hr0
  have HB := Aside0.mk (Below.refl w.heap.size w)
  clear c4 hr0
  cases A0 with
  | none =>
    have hl : l0 = [] := by
      rcases Nat.eq_zero_or_pos l0.length with h0 | h0
      · exact List.length_eq_zero_iff.1 h0
      · obtain ⟨ad, e, _⟩ := HR0.out.2.2 h0
        cases e
    subst hl
    have q1 := fun w => Lib.run_eql_slice_nil (P := Try.prog) w 30 5 none 0 c0 0 0 Try.underlying30
    go_enter Try.func45, Try.ntmps45
    go_wp2_with fail
    go_ret
    exact ⟨_, rfl, Kd.R_nil _ _ _ _ _, Below.refl _ _⟩
  | some ad =>
    have q1 := fun w => Lib.run_eql_slice_nil (P := Try.prog) w 30 5 (some ad) l0.length c0 0 0 Try.underlying30
    go_enter Try.func45, Try.ntmps45
    go_wp2_with (first | ((with_reducible refine gate_dst (N := 5) rfl ?_); refine Kd.R_lit (Kd.int .u8) _ 5 ?hg (N := 5) ?hd (xs := ([] : List Int)) (inner := []) (ok := fun _ => True) (okp := fun _ => True) ?hr ?hp (fun _ hk => hk) trivial (Below.refl _ _) (Nat.le_refl _) (by simp) ?_; (case hd => rfl); (case hg => rfl); (case hr => first | (go_simp; done) | (go_simp; rfl)); (case hp => exact (Reps.none _ _)); intro v113 w9 ho10 hb hg_ hnew_; clear hg_ hnew_; have HO := Aside0.mk ho10; have HB1 := Aside0.mk hb; clear ho10 hb) | ((with_reducible refine gate_builtin (b := .append) (xs := #[.tmp 5, .tmp 6]) rfl ?_); at_builtin; refine Kd.R_append_rows (Kd.int .u8) (w0 := w) w.heap.size rfl (.tmp 5) (.tmp 6) 30 5 (.int .u8 0) 1 rfl Try.underlying30 info_u8 rfl (by decide) (by omega) v113 [] l0 _ _ _ (fun _ => True) (fun _ => False) rfl rfl HO.out (Kd.C_below HR0.out HB1.out) (fun _ _ h => h) (fun _ h => h.elim) (fun _ _ => trivial) HB1.out (below_size HB1.out) (by have := LMc4.out; simp; omega) ?_; intro v116 w11 ho hb hg hat; clear hg hat; have HO2 := Aside0.mk ho; have HB2 := Aside0.mk hb; clear ho hb))
    go_ret
    exact ⟨_, rfl, HO2.out, HB2.out⟩
end

section
open Go.RowKit Go.Proofs.YtngjaaldidmgjaaW.PrintWords Go.Proofs.YtngjaaldidmgjaaW.PrintLast Go.Proofs.YtngjaaldidmgjaaW.PrintMore

/-- The first place from i on, of m, at which p holds; -1: none. -/
def firstP (p : Nat → Bool) : Nat → Nat → Int
  | _, 0 => -1
  | i, m + 1 => if p i then (i : Int) else firstP p (i + 1) m
theorem firstP_hit {p : Nat → Bool} {i m : Nat} (h : p i = true) (hm : 0 < m) : firstP p i m = i := by
  obtain ⟨m, rfl⟩ : ∃ q, m = q + 1 := ⟨m - 1, by omega⟩
  simp [firstP, h]
theorem firstP_miss {p : Nat → Bool} {i m : Nat} (h : p i = false) (hm : 0 < m) : firstP p i m = firstP p (i + 1) (m - 1) := by
  obtain ⟨m, rfl⟩ : ∃ q, m = q + 1 := ⟨m - 1, by omega⟩
  simp [firstP, h]
theorem firstP_neg (p : Nat → Bool) : ∀ (m i : Nat), (∀ j, i ≤ j → j < i + m → p j = false) → firstP p i m = -1
  | 0, _, _ => rfl
  | m + 1, i, h => by
    rw [firstP_miss (h i (Nat.le_refl _) (by omega)) (by omega)]
    exact firstP_neg p m (i + 1) (fun j h1 h2 => h j (by omega) (by omega))
theorem firstP_pos (p : Nat → Bool) : ∀ (m i : Nat), (∃ j, i ≤ j ∧ j < i + m ∧ p j = true) → ∃ j, i ≤ j ∧ j < i + m ∧ p j = true ∧ firstP p i m = (j : Int) ∧ ∀ q, i ≤ q → q < j → p q = false
  | 0, i, ⟨j, h1, h2, _⟩ => by omega
  | m + 1, i, ⟨j, h1, h2, h3⟩ => by
    cases hp : p i with
    | true => exact ⟨i, Nat.le_refl _, by omega, hp, firstP_hit hp (by omega), fun q h4 h5 => by omega⟩
    | false =>
      have hne : i ≠ j := fun e => by rw [e, h3] at hp; cases hp
      obtain ⟨j', a1, a2, a3, a4, a5⟩ := firstP_pos p m (i + 1) ⟨j, by omega, by omega, h3⟩
      refine ⟨j', by omega, by omega, a3, ?_, fun q h4 h5 => ?_⟩
      · rw [firstP_miss hp (by omega)]; exact a4
      · by_cases e : q = i
        · rw [e]; exact hp
        · exact a5 q (by omega) h5
theorem firstP_nonneg (p : Nat → Bool) (m i : Nat) : decide (firstP p i m ≥ 0) = (List.range' i m).any p := by
  cases h : (List.range' i m).any p with
  | false =>
    rw [firstP_neg p m i (fun j h1 h2 => by
      rw [List.any_eq_false] at h
      have := h j (List.mem_range'.2 ⟨j - i, by omega, by omega⟩)
      simpa using this)]
    decide
  | true =>
    rw [List.any_eq_true] at h
    obtain ⟨j, hj, hp⟩ := h
    obtain ⟨q, hq1, hq2⟩ := List.mem_range'.1 hj
    obtain ⟨j', _, _, _, e, _⟩ := firstP_pos p m i ⟨j, by omega, by omega, hp⟩
    rw [e]
    exact decide_eq_true (by omega)
theorem any_at {α : Type} (l : List α) (q : α → Bool) (d : α) : (List.range' 0 l.length).any (fun j => q (l.getD j d)) = l.any q := by
  rw [Bool.eq_iff_iff, List.any_eq_true, List.any_eq_true]
  constructor
  · rintro ⟨j, hj, h⟩
    obtain ⟨k, hk1, hk2⟩ := List.mem_range'.1 hj
    have hl : j < l.length := by omega
    exact ⟨l[j], List.getElem_mem hl, by simpa [List.getD, hl] using h⟩
  · rintro ⟨x, hx, h⟩
    obtain ⟨j, hj, rfl⟩ := List.getElem_of_mem hx
    exact ⟨j, List.mem_range'.2 ⟨j, by omega, by omega⟩, by simpa [List.getD, hj] using h⟩
end

section
open Go.Shelf Go.RowKit Go.Proofs.YtngjaaldidmgjaaW.PrintWords Go.Proofs.YtngjaaldidmgjaaW.PrintLast Go.Proofs.YtngjaaldidmgjaaW.PrintMore
set_option linter.unusedVariables false
set_option linter.unusedSimpArgs false

set_option maxHeartbeats 1000000 in
set_option maxRecDepth 100000 in
theorem idx_i32 (A : Option Addr) (n c : Nat) (K : Nat) (lb : Array Value) (p : Nat → Bool) (val : Nat → Value) (w : World) (hA : 0 < n → ∃ ad, A = some ad ∧ ∀ j, j < n → w.cell? (ad.add j) = some (val j)) (hn : n ≤ 9223372036854775807)
    (eg : ∀ args w, (callFunc K args).run Try.prog w = .ok (.enter K args) w)
    (hp : ∀ j W, j < n → Drawn0 w W → Calls Try.prog K (#[val j] ++ lb) W fun e w' => e = .returned (.bool (p j)) ∧ Drawn0 W w') :
    Calls Try.prog 129 #[.slice A n c, .func (.func K) #[] lb] w fun e w' => e = .returned (.int .i64 (firstP p 0 n)) ∧ Drawn0 w w' := by
  have HA := Aside0.mk hA
  have HP := Aside0.mk hp
  clear hA hp
  go_enter Try.func129, Try.ntmps129
  go_wp2
  go_loopg [5, 8] n (fun gg _ s8 wr => ∃ kk q : Nat, kk ≤ n ∧ n - kk ≤ gg ∧ s8 = .int .i64 kk ∧ wr = w.drewN q ∧ Aside0 (firstP p 0 n = firstP p kk (n - kk)))
  case atStart => exact ⟨0, 0, Nat.zero_le _, by omega, rfl, rfl, ⟨rfl⟩⟩
  case round =>
    obtain ⟨kk, q, hkk, hg, rfl, rfl, HF⟩ := hrel
    by_cases hlt : kk < n
    · have hltz : (kk : Int) < (n : Int) := by omega
      obtain ⟨ad, hA, hc⟩ := HA.out (by omega)
      subst hA
      have hcell := hc kk hlt
      clear hc
      have hcall := fun W h => HP.out kk W hlt h
      generalize val kk = y at hcell hcall
      cases hq : p kk with
      | true =>
        rw [hq] at hcall
        have HC := Aside0.mk hcall
        have HQ := Aside0.mk hq
        clear hcall hq
        go_wp2_with (go_at_fn K; refine (HC.out _ ?_).mono ?_; (first | exact ⟨⟨_, rfl⟩⟩ | exact ⟨⟨_, (World.drewN_drewN _ _ _)⟩⟩); rintro e w' ⟨rfl, ⟨⟨q', rfl⟩⟩⟩)
        go_ret
        refine ⟨?_, ⟨⟨_, rfl⟩⟩⟩
        rw [HF.out, firstP_hit HQ.out (by omega)]
        rfl
      | false =>
        rw [hq] at hcall
        have HC := Aside0.mk hcall
        have HQ := Aside0.mk hq
        clear hcall hq
        go_wp2_with (go_at_fn K; refine (HC.out _ ?_).mono ?_; (first | exact ⟨⟨_, rfl⟩⟩ | exact ⟨⟨_, (World.drewN_drewN _ _ _)⟩⟩); rintro e w' ⟨rfl, ⟨⟨q', rfl⟩⟩⟩)
        go_roundg (n - (kk + 1))
        case measure => omega
        case rel => exact ⟨kk + 1, _, by omega, by omega, by go_num, rfl, ⟨by rw [HF.out, firstP_miss HQ.out (by omega), show n - kk - 1 = n - (kk + 1) by omega]⟩⟩
    · have hltz : ¬ (kk : Int) < (n : Int) := by omega
      obtain rfl : kk = n := by omega
      go_wp2
      go_ret
      refine ⟨?_, ⟨⟨q, rfl⟩⟩⟩
      rw [HF.out, Nat.sub_self]
      rfl


set_option maxHeartbeats 1000000 in
set_option maxRecDepth 100000 in
theorem con_i32 (A : Option Addr) (n c : Nat) (K : Nat) (lb : Array Value) (p : Nat → Bool) (val : Nat → Value) (w : World) (hA : 0 < n → ∃ ad, A = some ad ∧ ∀ j, j < n → w.cell? (ad.add j) = some (val j)) (hn : n ≤ 9223372036854775807)
    (eg : ∀ args w, (callFunc K args).run Try.prog w = .ok (.enter K args) w)
    (hp : ∀ j W, j < n → Drawn0 w W → Calls Try.prog K (#[val j] ++ lb) W fun e w' => e = .returned (.bool (p j)) ∧ Drawn0 W w') :
    Calls Try.prog 114 #[.slice A n c, .func (.func K) #[] lb] w fun e w' => e = .returned (.bool ((List.range' 0 n).any p)) ∧ Drawn0 w w' := by
  have HI := Aside0.mk (idx_i32 A n c K lb p val w hA hn eg hp)
  have HE := Aside0.mk (firstP_nonneg p n 0)
  clear hA hp
  go_enter Try.func114, Try.ntmps114
  go_wp2_with fail
  refine HI.out.mono ?_
  generalize firstP p 0 n = x at HE
  rintro e w' ⟨rfl, hd⟩
  have HD := Aside0.mk hd
  clear hd
  go_wp2_with fail
  go_returns
  exact ⟨by rw [← HE.out]; rfl, HD.out⟩


theorem C_byte' {w : World} {A : Option Addr} {l : List Int} {k : IntKind} (h : Kd.C (Kd.int k) w A l.length l) (j : Nat) (hj : j < l.length) : ∃ ad, A = some ad ∧ w.cell? (ad.add j) = some (.int k (l.getD j 0)) := by
  obtain ⟨ad, e, hc⟩ := Kd.at_int h j (by omega) (by omega)
  exact ⟨ad, e, by simpa [rd] using hc⟩
def okC (x : Int) : Bool := decide (-1073741823 ≤ x ∧ x ≤ 1073741823)
def right (l : List Int) : Bool := decide (1 ≤ l.length ∧ l.length ≤ 4) && l.all okC
def checkV (l : List Int) : Int := if right l = true then 0 else 150
def vec_Check.f (l : List Int) : Option Int := some (checkV l)

theorem bad1 (x : Int) (w : World) : Calls Try.prog 113 #[.int .i32 x] w fun e w' => e = .returned (.bool (!okC x)) ∧ Drawn0 w w' := by
  by_cases h1 : x < -1073741823
  · have hs : okC x = false := by simp [okC]; omega
    have e1 : decide (x < (-1073741823 : Int)) = true := decide_eq_true h1
    rw [hs]
    clear hs
    go_enter Try.func113, Try.ntmps113
    go_wp2_with fail
    go_returns
    exact ⟨rfl, Drawn0.refl _⟩
  · by_cases h2 : 1073741823 < x
    · have hs : okC x = false := by simp [okC]; omega
      have e1 : decide (x < (-1073741823 : Int)) = false := decide_eq_false h1
      have e2 : decide ((1073741823 : Int) < x) = true := decide_eq_true h2
      rw [hs]
      clear hs
      go_enter Try.func113, Try.ntmps113
      go_wp2_with fail
      go_returns
      exact ⟨rfl, Drawn0.refl _⟩
    · have hs : okC x = true := by simp [okC]; omega
      have e1 : decide (x < (-1073741823 : Int)) = false := decide_eq_false h1
      have e2 : decide ((1073741823 : Int) < x) = false := decide_eq_false h2
      rw [hs]
      clear hs
      go_enter Try.func113, Try.ntmps113
      go_wp2_with fail
      go_returns
      exact ⟨rfl, Drawn0.refl _⟩

theorem con_bad (A : Option Addr) (c : Nat) (l : List Int) (w : World) (hr : Kd.C (Kd.int .i32) w A l.length l) :
    Calls Try.prog 114 #[.slice A l.length c, .func (.func 113) #[] #[]] w fun e w' => e = .returned (.bool (!l.all okC)) ∧ Drawn0 w w' := by
  have := con_i32 A l.length c 113 #[] (fun j => !okC (l.getD j 0)) (fun j => .int .i32 (l.getD j 0)) w (fun h => by
      obtain ⟨ad, hA, _⟩ := C_byte' hr 0 h
      exact ⟨ad, hA, fun j hj => by
        obtain ⟨ad', hA', hc⟩ := C_byte' hr j hj
        rw [hA] at hA'
        injection hA' with hA'
        subst hA'
        exact hc⟩) (Kd.C_max hr) (enters_of Try.func113 (by kernel_rfl) rfl) (fun j W hj hd => bad1 _ W)
  rw [any_at l (fun x => !okC x) 0] at this
  have e : (l.any fun x => !okC x) = !l.all okC := by rw [List.not_all_eq_any_not]
  rw [e] at this
  exact this

set_option maxHeartbeats 1000000 in
set_option maxRecDepth 100000 in
theorem vec_Check.calls (A : Option Addr) (c : Nat) (l : List Int) (r : Int) (w : World) (hr : Kd.C (Kd.int .i32) w A l.length l) (hc : l.length ≤ c) (h : vec_Check.f l = some r) :
    Calls Try.prog 71 #[.slice A l.length c] w fun e w' => e = .returned (.int .i64 r) ∧ Drawn0 w w' := by
  obtain rfl := Option.some.inj h
  clear h
  have HC := Aside0.mk (con_bad A c l w hr)
  have hm := Kd.C_max hr
  clear hr hc
  by_cases h1 : l.length < 1
  · have hs : checkV l = 150 := by unfold checkV right; rw [if_neg]; simp; omega
    have e1 : decide ((l.length : Int) < (1 : Int)) = true := decide_eq_true (by omega)
    rw [hs]
    clear hs
    go_enter Try.func71, Try.ntmps71
    go_wp2_with fail
    go_returns
    exact ⟨rfl, Drawn0.refl _⟩
  · have e1 : decide ((l.length : Int) < (1 : Int)) = false := decide_eq_false (by omega)
    by_cases h2 : 4 < l.length
    · have hs : checkV l = 150 := by unfold checkV right; rw [if_neg]; simp; omega
      have e2 : decide ((4 : Int) < (l.length : Int)) = true := decide_eq_true (by omega)
      rw [hs]
      clear hs
      go_enter Try.func71, Try.ntmps71
      go_wp2_with fail
      go_returns
      exact ⟨rfl, Drawn0.refl _⟩
    · have e2 : decide ((4 : Int) < (l.length : Int)) = false := decide_eq_false (by omega)
      have hs : checkV l = if l.all okC = true then 0 else 150 := by
        unfold checkV right
        rw [decide_eq_true (show 1 ≤ l.length ∧ l.length ≤ 4 from ⟨by omega, by omega⟩), Bool.true_and]
      rw [hs]
      clear hs
      generalize l.all okC = b at HC
      cases b with
      | true =>
        go_enter Try.func71, Try.ntmps71
        go_wp2_with fail
        refine HC.out.mono ?_
        rintro e w' ⟨rfl, hd⟩
        have HD := Aside0.mk hd
        clear hd
        go_wp2_with fail
        go_returns
        exact ⟨rfl, HD.out⟩
      | false =>
        go_enter Try.func71, Try.ntmps71
        go_wp2_with fail
        refine HC.out.mono ?_
        rintro e w' ⟨rfl, hd⟩
        have HD := Aside0.mk hd
        clear hd
        go_wp2_with fail
        go_returns
        exact ⟨rfl, HD.out⟩
end

end Go.Proofs.Ytngjaaldidmgjaa.G
