/- A map of ints to true that the call has made and to which new keys alone are laid: what its block is; the look-up, the store, the range over one key. -/
import Derived.Test.YtoblkjdiahoplaaA3
import Derived.MapKept
import Derived.Laws.IdiomRangeMap
namespace Go.Proofs.Ytoblkjdiahoplaa.G
open Go.Shelf Go.RowKit Go.Proofs.YtoblkjdiahoplaaW.PrintWords Go.Proofs.YtoblkjdiahoplaaW.PrintLast Go.Proofs.YtoblkjdiahoplaaW.PrintMore
set_option linter.unusedVariables false
set_option linter.unusedSimpArgs false

/-- The entries of a map that got these keys, one behind the other. -/
def entsL : Nat → List Int → List MapEntry
  | _, [] => []
  | n, k :: ks => { key := .int .i64 k, val := .bool true, born := n } :: entsL (n + 1) ks
def ents (ks : List Int) : Array MapEntry := (entsL 0 ks).toArray
theorem entsL_append (s : Int) : ∀ (ks : List Int) (n : Nat), entsL n (ks ++ [s]) = entsL n ks ++ [{ key := .int .i64 s, val := .bool true, born := n + ks.length }]
  | [], n => by simp [entsL]
  | k :: ks, n => by
    rw [List.cons_append, entsL, entsL, entsL_append s ks (n + 1), List.cons_append, List.length_cons, show n + 1 + ks.length = n + (ks.length + 1) by omega]
theorem ents_push (ks : List Int) (s : Int) : (ents ks).push { key := .int .i64 s, val := .bool true, born := ks.length } = ents (ks ++ [s]) := by
  unfold ents
  rw [entsL_append, List.push_toArray, Nat.zero_add]
/-- Block b is that map. -/
def BM (w : World) (b : Nat) (ks : List Int) : Prop := w.heap[b]? = some (.map (ents ks) ks.length)
theorem find_ents (s : Int) : ∀ (ks : List Int) (n i : Nat), (s ∈ ks ∧ ∃ j, Instr.findNow (.int .i64) (.int .i64 s) (entsL n ks) i = some (some (j, .bool true))) ∨ (s ∉ ks ∧ Instr.findNow (.int .i64) (.int .i64 s) (entsL n ks) i = some none)
  | [], n, i => Or.inr ⟨List.not_mem_nil, rfl⟩
  | k :: ks, n, i => by
    by_cases h : s = k
    · refine Or.inl ⟨by rw [h]; exact List.mem_cons_self, i, ?_⟩
      rw [entsL]
      simp [Instr.findNow, Instr.sameNow, h]
    · have hb : (s == k) = false := beq_eq_false_iff_ne.mpr h
      rcases find_ents s ks (n + 1) (i + 1) with ⟨h1, j, h2⟩ | ⟨h1, h2⟩
      · refine Or.inl ⟨List.mem_cons_of_mem _ h1, j, ?_⟩
        rw [entsL]
        simp [Instr.findNow, Instr.sameNow, hb, h2]
      · refine Or.inr ⟨fun hm => (List.mem_cons.mp hm).elim h h1, ?_⟩
        rw [entsL]
        simp [Instr.findNow, Instr.sameNow, hb, h2]
theorem run_look {P : Program} {t kt et : TypeId} (w : World) (b : Nat) (ks : List Int) (s : Int) (ht : P.underlying t = some (.map kt et)) (hk : P.underlying kt = some (.int .i64)) (hz : (zeroValue et).run P w = .ok (.bool false) w) (hb : BM w b ks) :
    (Instr.lookup t (.map (some b)) (.int .i64 s) false).run P w = .ok (.bool (decide (s ∈ ks))) w := by
  have hc : ∀ e, (Instr.checkKey e 10000 kt (.int .i64 s)).run P w = .ok () w := fun e => MapKept.run_checkKey hk (by simp [MapKept.IsKey]) e 9999
  rcases find_ents s ks 0 0 with ⟨h1, j, h2⟩ | ⟨h1, h2⟩
  · have hf := MapKept.run_findKey (P := P) (w := w) hk h2
    rw [decide_eq_true h1]
    simp [Instr.lookup, run_underlying ht, MapKept.run_getObj_map hb, hc, ents, hf, Result.andThen]
  · have hf := MapKept.run_findKey (P := P) (w := w) hk h2
    rw [decide_eq_false h1]
    simp [Instr.lookup, run_underlying ht, MapKept.run_getObj_map hb, hc, ents, hf, hz, Result.andThen]
theorem run_store {P : Program} {t kt et : TypeId} (w : World) (b : Nat) (ks : List Int) (s : Int) (ht : P.underlying t = some (.map kt et)) (hk : P.underlying kt = some (.int .i64)) (hb : BM w b ks) (hs : s ∉ ks) :
    (Instr.mapUpdate t (.map (some b)) (.int .i64 s) (.bool true)).run P w = .ok () { w with heap := w.heap.setIfInBounds b (.map (ents (ks ++ [s])) (ks.length + 1)) } := by
  have hc : ∀ e, (Instr.checkKey e 10000 kt (.int .i64 s)).run P w = .ok () w := fun e => MapKept.run_checkKey hk (by simp [MapKept.IsKey]) e 9999
  rcases find_ents s ks 0 0 with ⟨h1, j, h2⟩ | ⟨h1, h2⟩
  · exact absurd h1 hs
  · have hf := MapKept.run_findKey (P := P) (w := w) hk h2
    rw [← ents_push]
    simp [Instr.mapUpdate, run_underlying ht, MapKept.run_getObj_map hb, hc, hf, MapKept.run_setObj_map _ hb, Result.andThen, ents]
theorem BM_store {w : World} {b : Nat} {ks : List Int} {s : Int} (hb : BM w b ks) : BM { w with heap := w.heap.setIfInBounds b (.map (ents (ks ++ [s])) (ks.length + 1)) } b (ks ++ [s]) := by
  unfold BM
  rw [List.length_append, List.length_singleton]
  exact (MapKept.heap_set hb).1
theorem BM_new (w : World) : BM (w.alloc (.map #[] 0)) w.heap.size [] := heap_alloc_new w _

/-- The range over a map of one key: the first step, the key, the second step. -/
theorem run_next1 {P : Program} (w : World) (ty : TypeId) (r bm : Nat) (s : Int) (hr : w.heap[r]? = some (.mapIter (some bm) 1 #[] 1)) (hb : BM w bm [s]) :
    (Instr.next (.pointer (some ⟨r, 0, none⟩)) false ty).run P w = .ok (.tuple #[.bool true, .int .i64 s, .bool true]) { w with heap := w.heap.setIfInBounds r (.mapIter (some bm) 1 #[0] 1) } := by
  have hb' : w.heap[bm]? = some (.map #[{ key := .int .i64 s, val := .bool true, born := 0 }] 1) := hb
  simp [Instr.next, getObj, setObj, Sem.run_bind, Sem.run, hr, hb', Result.andThen, choose, Question.forced]
theorem run_next2 {P : Program} (w : World) (ty : TypeId) (r bm : Nat) (s : Int) (hr : w.heap[r]? = some (.mapIter (some bm) 1 #[0] 1)) (hb : BM w bm [s]) :
    (Instr.next (.pointer (some ⟨r, 0, none⟩)) false ty).run P w = .ok (.tuple #[.bool false]) w := by
  have hb' : w.heap[bm]? = some (.map #[{ key := .int .i64 s, val := .bool true, born := 0 }] 1) := hb
  simp [Instr.next, getObj, setObj, Sem.run_bind, Sem.run, hr, hb', Result.andThen, choose, Question.forced]
theorem run_entry1 {P : Program} (w : World) (r bm : Nat) (s : Int) (hr : w.heap[r]? = some (.mapIter (some bm) 1 #[0] 1)) (hb : BM w bm [s]) :
    (Instr.entry (.pointer (some ⟨r, 0, none⟩))).run P w = .ok (.tuple #[.int .i64 s, .bool true]) w := by
  have hb' : w.heap[bm]? = some (.map #[{ key := .int .i64 s, val := .bool true, born := 0 }] 1) := hb
  simp [Instr.entry, getObj, setObj, Sem.run_bind, Sem.run, hr, hb', Result.andThen]
theorem run_range1 {P : Program} {t k e : TypeId} (w : World) (bm : Nat) (s : Int) (ht : P.underlying t = some (.map k e)) (hb : BM w bm [s]) :
    (Instr.range t (.map (some bm))).run P w = .ok (.pointer (some ⟨w.heap.size, 0, none⟩)) (w.alloc (.mapIter (some bm) 1 #[] 1)) := run_range_map w t k e bm _ 1 ht hb

end Go.Proofs.Ytoblkjdiahoplaa.G
