/- Frames: a world is as another was but for the blocks of S and what is new since; no program's text is spoken of. -/
import Derived.Test.YtoblkjdiahoplaaWWords
import Derived.Test.YtoblkjdiahoplaaWLast
import Derived.Test.YtoblkjdiahoplaaWKept
import Derived.Test.YtoblkjdiahoplaaWMore
namespace Go.Proofs.Ytoblkjdiahoplaa.G
open Go.RowKit Go.Proofs.YtoblkjdiahoplaaW.PrintWords Go.Proofs.YtoblkjdiahoplaaW.PrintLast Go.Proofs.YtoblkjdiahoplaaW.PrintMore

/-- w' is w but for the blocks of S, and what is new since. -/
structure Fr (S : Nat → Prop) (w w' : World) : Prop where
  os : w'.os = w.os
  tape : w'.tape = w.tape
  output : w'.output = w.output
  kept : Kept w w' S

section
variable {S S' : Nat → Prop} {w w1 w2 : World}
theorem Fr.refl (S : Nat → Prop) (w : World) : Fr S w w := ⟨rfl, rfl, rfl, Kept.refl _ _⟩
theorem Fr.size (h : Fr S w w1) : w.heap.size ≤ w1.heap.size := h.kept.1
theorem Fr.block (h : Fr S w w1) {k : Nat} (hk : k < w.heap.size) (hs : ¬ S k) : w1.heap[k]? = w.heap[k]? := h.kept.2 k hk hs
theorem Fr.then_ (h : Fr S w w1) (k : Fr S' w1 w2) (hs : ∀ k, S' k → S k ∨ w.heap.size ≤ k) : Fr S w w2 :=
  ⟨k.os.trans h.os, k.tape.trans h.tape, k.output.trans h.output, h.kept.then_ k.kept hs⟩
theorem Fr.trans (h : Fr S w w1) (k : Fr S w1 w2) : Fr S w w2 := h.then_ k (fun _ h => .inl h)
theorem Fr.mono (h : Fr S w w1) (hs : ∀ k, S k → S' k) : Fr S' w w1 := ⟨h.os, h.tape, h.output, h.kept.mono hs⟩
theorem Fr.of_below (h : Below w.heap.size w w1) : Fr S w w1 := ⟨h.os, h.tape, h.output, Kept.of_below h S⟩
theorem Fr.below (h : Fr S w w1) (k : Below w1.heap.size w1 w2) : Fr S w w2 := h.trans (Fr.of_below k)
theorem Fr.of_grown {row : Option Nat} (h : w.grownBy w1 row) (hr : ∀ k, row = some k → S k ∨ w.heap.size ≤ k) : Fr S w w1 :=
  ⟨h.os, h.tape, h.output, Kept.of_grown h (Kept.refl w S) hr⟩
theorem Fr.grown {row : Option Nat} (h : Fr S w w1) (k : w1.grownBy w2 row) (hr : ∀ k, row = some k → S k ∨ w.heap.size ≤ k) : Fr S w w2 :=
  ⟨k.os.trans h.os, k.tape.trans h.tape, k.output.trans h.output, Kept.of_grown k h.kept hr⟩
theorem Fr.alloc (h : Fr S w w1) (o : Obj) : Fr S w (w1.alloc o) := ⟨h.os, h.tape, h.output, h.kept.alloc o⟩
theorem Fr.drew (h : Fr S w w1) : Fr S w w1.drew := ⟨h.os, h.tape, h.output, h.kept.drew⟩
theorem Fr.drewN (h : Fr S w w1) (m : Nat) : Fr S w (w1.drewN m) := ⟨h.os, h.tape, h.output, h.kept.drewN m⟩
theorem Fr.setCell (h : Fr S w w1) {p : Addr} (hp : S p.block ∨ w.heap.size ≤ p.block) (u : Value) : Fr S w (w1.setCell p u) := ⟨h.os, h.tape, h.output, h.kept.setCell hp u⟩
/-- What is written lies from base on: below that all is as it was. -/
theorem Fr.toBelow {base : Nat} (h : Fr S w w1) (hb : base ≤ w.heap.size) (hs : ∀ k, S k → base ≤ k) : Below base w w1 :=
  ⟨h.os, h.tape, h.output, h.size, fun k hk => h.block (Nat.lt_of_lt_of_le hk hb) (fun e => by have := hs k e; omega)⟩
theorem Fr.no (h : Fr (fun _ => False) w w1) : Below w.heap.size w w1 := h.toBelow (Nat.le_refl _) (fun _ h => h.elim)
theorem Fr.blk {g : Nat} {o : Obj} (h : Fr S w w1) (hb : w.heap[g]? = some o) (hs : ¬ S g) : w1.heap[g]? = some o := blk_kept hb h.kept hs
theorem Fr.cell {a : Addr} {v : Value} (h : Fr S w w1) (hc : w.cell? a = some v) (hs : ¬ S a.block) : w1.cell? a = some v := cell_kept hc h.kept hs
end

theorem block_add (a : Addr) (k : Nat) : (a.add k).block = a.block := by unfold Addr.add; split <;> rfl
theorem grown_refl (w : World) (r : Option Nat) : w.grownBy w r := ⟨rfl, rfl, rfl, Nat.le_refl _, fun _ _ _ => rfl⟩
theorem grown_drewN {w : World} (m : Nat) {r : Option Nat} : w.grownBy (w.drewN m) r := ⟨rfl, rfl, rfl, Nat.le_refl _, fun _ _ _ => rfl⟩
theorem grown_set (w : World) (g j : Nat) (u : Value) : w.grownBy (w.setCell ⟨g, j, none⟩ u) (some g) :=
  ⟨rfl, rfl, rfl, by simp [World.setCell], fun k _ hne => Below.heap_setCell w ⟨g, j, none⟩ u k (fun e => hne (by rw [e]))⟩
theorem C_sub {α : Type} {k : Kd α} {w : World} {ad : Addr} {xs : List α} {lo n : Nat} (h : k.C w (some ad) xs.length xs) (hm : lo + n ≤ xs.length) : k.C w (some (ad.add (lo * k.sz))) n ((xs.drop lo).take n) := by
  have h1 := Kd.C_drop (c := xs.length + 1) (m := lo) h (by omega) (by omega)
  rw [if_neg (by omega)] at h1
  have h2 := Kd.C_take (m := n) h1 (by simp; omega)
  rw [List.length_take, List.length_drop, Nat.min_eq_left (by omega)] at h2
  exact h2
theorem rd_at (l : List Int) (k : Nat) (h : k < l.length) : rd l k = l[k] := by
  unfold rd
  rw [Int.toNat_natCast, List.getD_eq_getElem?_getD, List.getElem?_eq_getElem h]
  rfl
theorem take_snoc (l : List Int) (k : Nat) (h : k < l.length) : l.take (k + 1) = l.take k ++ [rd l k] := by
  rw [List.take_succ_eq_append_getElem h]
  rw [rd_at l k h]
/-- A row of numbers that was just laid. -/
theorem C_lit (k : IntKind) (w : World) (l : List Int) (e : TypeId) (hl : l.length ≤ 9223372036854775807) : Kd.C (Kd.int k) (w.alloc (.cells (l.map (Value.int k)).toArray e)) (some ⟨w.heap.size, 0, none⟩) l.length l := by
  refine Kd.C_of_reads (d := (0 : Int)) (h1 := fun _ => rfl) ⟨rfl, hl, fun _ => ⟨_, rfl, fun j hj => ?_⟩⟩
  rw [add_plain, blk_cell (heap_alloc_new w _)]
  simp [List.getD_eq_getElem?_getD, hj]

theorem C_byte {w : World} {A : Option Addr} {l : List Int} (h : Kd.C (Kd.int .u8) w A l.length l) (k : Nat) (hk : k < l.length) : ∃ ad, A = some ad ∧ w.cell? (ad.add k) = some (.int .u8 (rd l k)) := by
  obtain ⟨ad, e, hc⟩ := Kd.at_int h k (by omega) (by omega)
  exact ⟨ad, e, by simpa using hc⟩

end Go.Proofs.Ytoblkjdiahoplaa.G
