/- A map of ints to true that the call has made and to which new keys alone are laid: what its block is; the look-up, the store, the range over one key. Contract of arena.Drop at one slot: the walk. -/
import Derived.Test.YtoblkjdiahoplaaA3
import Derived.MapKept
import Derived.Laws.IdiomRangeMap
import Derived.Test.YtoblkjdiahoplaaPx7
import Derived.Test.YtoblkjdiahoplaaI
import Derived.Test.YtoblkjdiahoplaaPov
namespace Go.Proofs.Ytoblkjdiahoplaa.G
open Go.Shelf Go.RowKit Go.Proofs.YtoblkjdiahoplaaW.PrintWords Go.Proofs.YtoblkjdiahoplaaW.PrintLast Go.Proofs.YtoblkjdiahoplaaW.PrintMore
set_option linter.unusedVariables false
set_option linter.unusedSimpArgs false

section
/-- The entries of a map that got these keys, one behind the other. -/
def entsL : Nat → List Int → List MapEntry
  | _, [] => []
  | n, k :: ks => { key := .int .i64 k, val := .bool true, born := n } :: entsL (n + 1) ks
def ents (ks : List Int) : Array MapEntry := (entsL 0 ks).toArray
theorem entsL_append (s : Int) : ∀ (ks : List Int) (n : Nat), entsL n (ks ++ [s]) = entsL n ks ++ [{ key := .int .i64 s, val := .bool true, born := n + ks.length }]
  | [], n => by simp [entsL]
  | k :: ks, n => by
    rw [List.cons_append, entsL, entsL, entsL_append s ks (n + 1), List.cons_append, List.length_cons, show n + 1 + ks.length = n + (ks.length + 1) by omega]
theorem ents_push (ks : List Int) (s : Int) : (ents ks).push { key := .int .i64 s, val := .bool true, born := ks.length } = ents (ks ++ [s]) := by
  unfold ents
  rw [entsL_append, List.push_toArray, Nat.zero_add]
/-- Block b is that map. -/
def BM (w : World) (b : Nat) (ks : List Int) : Prop := w.heap[b]? = some (.map (ents ks) ks.length)
theorem find_ents (s : Int) : ∀ (ks : List Int) (n i : Nat), (s ∈ ks ∧ ∃ j, Instr.findNow (.int .i64) (.int .i64 s) (entsL n ks) i = some (some (j, .bool true))) ∨ (s ∉ ks ∧ Instr.findNow (.int .i64) (.int .i64 s) (entsL n ks) i = some none)
  | [], n, i => Or.inr ⟨List.not_mem_nil, rfl⟩
  | k :: ks, n, i => by
    by_cases h : s = k
    · refine Or.inl ⟨by rw [h]; exact List.mem_cons_self, i, ?_⟩
      rw [entsL]
      simp [Instr.findNow, Instr.sameNow, h]
    · have hb : (s == k) = false := beq_eq_false_iff_ne.mpr h
      rcases find_ents s ks (n + 1) (i + 1) with ⟨h1, j, h2⟩ | ⟨h1, h2⟩
      · refine Or.inl ⟨List.mem_cons_of_mem _ h1, j, ?_⟩
        rw [entsL]
        simp [Instr.findNow, Instr.sameNow, hb, h2]
      · refine Or.inr ⟨fun hm => (List.mem_cons.mp hm).elim h h1, ?_⟩
        rw [entsL]
        simp [Instr.findNow, Instr.sameNow, hb, h2]
theorem run_look {P : Program} {t kt et : TypeId} (w : World) (b : Nat) (ks : List Int) (s : Int) (ht : P.underlying t = some (.map kt et)) (hk : P.underlying kt = some (.int .i64)) (hz : (zeroValue et).run P w = .ok (.bool false) w) (hb : BM w b ks) :
    (Instr.lookup t (.map (some b)) (.int .i64 s) false).run P w = .ok (.bool (decide (s ∈ ks))) w := by
  have hc : ∀ e, (Instr.checkKey e 10000 kt (.int .i64 s)).run P w = .ok () w := fun e => MapKept.run_checkKey hk (by simp [MapKept.IsKey]) e 9999
  rcases find_ents s ks 0 0 with ⟨h1, j, h2⟩ | ⟨h1, h2⟩
  · have hf := MapKept.run_findKey (P := P) (w := w) hk h2
    rw [decide_eq_true h1]
    simp [Instr.lookup, run_underlying ht, MapKept.run_getObj_map hb, hc, ents, hf, Result.andThen]
  · have hf := MapKept.run_findKey (P := P) (w := w) hk h2
    rw [decide_eq_false h1]
    simp [Instr.lookup, run_underlying ht, MapKept.run_getObj_map hb, hc, ents, hf, hz, Result.andThen]
theorem run_store {P : Program} {t kt et : TypeId} (w : World) (b : Nat) (ks : List Int) (s : Int) (ht : P.underlying t = some (.map kt et)) (hk : P.underlying kt = some (.int .i64)) (hb : BM w b ks) (hs : s ∉ ks) :
    (Instr.mapUpdate t (.map (some b)) (.int .i64 s) (.bool true)).run P w = .ok () { w with heap := w.heap.setIfInBounds b (.map (ents (ks ++ [s])) (ks.length + 1)) } := by
  have hc : ∀ e, (Instr.checkKey e 10000 kt (.int .i64 s)).run P w = .ok () w := fun e => MapKept.run_checkKey hk (by simp [MapKept.IsKey]) e 9999
  rcases find_ents s ks 0 0 with ⟨h1, j, h2⟩ | ⟨h1, h2⟩
  · exact absurd h1 hs
  · have hf := MapKept.run_findKey (P := P) (w := w) hk h2
    rw [← ents_push]
    simp [Instr.mapUpdate, run_underlying ht, MapKept.run_getObj_map hb, hc, hf, MapKept.run_setObj_map _ hb, Result.andThen, ents]
theorem BM_store {w : World} {b : Nat} {ks : List Int} {s : Int} (hb : BM w b ks) : BM { w with heap := w.heap.setIfInBounds b (.map (ents (ks ++ [s])) (ks.length + 1)) } b (ks ++ [s]) := by
  unfold BM
  rw [List.length_append, List.length_singleton]
  exact (MapKept.heap_set hb).1
theorem BM_new (w : World) : BM (w.alloc (.map #[] 0)) w.heap.size [] := heap_alloc_new w _

/-- The range over a map of one key: the first step, the key, the second step. -/
theorem run_next1 {P : Program} (w : World) (ty : TypeId) (r bm : Nat) (s : Int) (hr : w.heap[r]? = some (.mapIter (some bm) 1 #[] 1)) (hb : BM w bm [s]) :
    (Instr.next (.pointer (some ⟨r, 0, none⟩)) false ty).run P w = .ok (.tuple #[.bool true, .int .i64 s, .bool true]) { w with heap := w.heap.setIfInBounds r (.mapIter (some bm) 1 #[0] 1) } := by
  have hb' : w.heap[bm]? = some (.map #[{ key := .int .i64 s, val := .bool true, born := 0 }] 1) := hb
  simp [Instr.next, getObj, setObj, Sem.run_bind, Sem.run, hr, hb', Result.andThen, choose, Question.forced]
theorem run_next2 {P : Program} (w : World) (ty : TypeId) (r bm : Nat) (s : Int) (hr : w.heap[r]? = some (.mapIter (some bm) 1 #[0] 1)) (hb : BM w bm [s]) :
    (Instr.next (.pointer (some ⟨r, 0, none⟩)) false ty).run P w = .ok (.tuple #[.bool false]) w := by
  have hb' : w.heap[bm]? = some (.map #[{ key := .int .i64 s, val := .bool true, born := 0 }] 1) := hb
  simp [Instr.next, getObj, setObj, Sem.run_bind, Sem.run, hr, hb', Result.andThen, choose, Question.forced]
theorem run_entry1 {P : Program} (w : World) (r bm : Nat) (s : Int) (hr : w.heap[r]? = some (.mapIter (some bm) 1 #[0] 1)) (hb : BM w bm [s]) :
    (Instr.entry (.pointer (some ⟨r, 0, none⟩))).run P w = .ok (.tuple #[.int .i64 s, .bool true]) w := by
  have hb' : w.heap[bm]? = some (.map #[{ key := .int .i64 s, val := .bool true, born := 0 }] 1) := hb
  simp [Instr.entry, getObj, setObj, Sem.run_bind, Sem.run, hr, hb', Result.andThen]
theorem run_range1 {P : Program} {t k e : TypeId} (w : World) (bm : Nat) (s : Int) (ht : P.underlying t = some (.map k e)) (hb : BM w bm [s]) :
    (Instr.range t (.map (some bm))).run P w = .ok (.pointer (some ⟨w.heap.size, 0, none⟩)) (w.alloc (.mapIter (some bm) 1 #[] 1)) := run_range_map w t k e bm _ 1 ht hb
end

section
/-- arena.Drop of one slot. -/
def arena_Drop.f (l0 : List Cell) (s : Int) : Option (List Cell × Int) :=
  if arenaOk l0 = true then (P.arena_has.f l0 s).bind fun b => if b = true then some (l0.set s.toNat P.z36, 0) else some ([], 191) else some ([], 190)

set_option maxRecDepth 100000 in
set_option maxHeartbeats 1000000 in
theorem drop_bad (P0_0_ : Nat → Prop) (A0 : Option Addr) (c0 : Nat) (l0 : List Cell) (A1 : Option Addr) (c1 : Nat) (s : Int) (w : World) (hr0 : Kd.C kC w A0 l0.length l0) (hc0 : l0.length ≤ c0) (hok : arenaOk l0 = false) :
    Calls Try.prog 21 #[.agg #[.slice A0 l0.length c0], .slice A1 1 c1] w fun e w' => ∃ v0_ : Value, e = .returned (.tuple #[.agg #[v0_], .int .i64 190]) ∧ Kd.N kC 36 w' w.heap.size (fun k_ => P0_0_ k_ ∨ w.heap.size ≤ k_) v0_ [] ∧ Below w.heap.size w w' := by
  obtain ⟨w1, hw1⟩ : ∃ w1, w1 = (w.alloc (.cells #[.slice A0 l0.length c0] 26)).alloc (.cells #[.slice none 0 0] 26) := ⟨_, rfl⟩
  have HB1 := Aside0.mk (show Below w.heap.size w w1 by rw [hw1]; exact ((Below.refl _ _).alloc (Nat.le_refl _) _).alloc (by simp) _)
  have hsz : (w.alloc (.cells #[.slice A0 l0.length c0] 26)).heap.size = w.heap.size + 1 := by simp
  have hblk : w1.heap[w.heap.size]? = some (.cells #[.slice A0 l0.length c0] 26 (0, 0)) := by rw [hw1]; exact (Below.heap_alloc _ _ _ (by simp)).trans (heap_alloc_new w _)
  have hres : w1.heap[w.heap.size + 1]? = some (.cells #[.slice none 0 0] 26 (0, 0)) := by rw [hw1, ← hsz]; exact heap_alloc_new _ _
  have HBK := Aside0.mk hblk
  have HRS := Aside0.mk hres
  have q0 : w1.cell? ⟨w.heap.size, 0, none⟩ = some (.slice A0 l0.length c0) := (blk_cell hblk 0).trans rfl
  have HCK := Aside0.mk (arena_Check.calls A0 c0 l0 (if arenaOk l0 = true then 0 else 190) w1 (Kd.C_below hr0 HB1.out) hc0 rfl)
  have HW := Aside0.mk hw1
  rw [hok] at HCK
  rw [if_neg (by decide)] at HCK
  clear hblk hw1 hr0 hc0 hok hres
  go_enter Try.func21, Try.ntmps21
  go_upto_region 1 with (fail)
  rw [← HW.out]
  go_wp2_with fail
  refine HCK.out.mono ?_
  rintro e w2 ⟨rfl, hd⟩
  have HB := Aside0.mk (below_step HB1.out hd)
  have hr2 := blk_below HRS.out hd
  have HR2 := Aside0.mk hr2
  have q1 : w2.cell? ⟨w.heap.size + 1, 0, none⟩ = some (.slice none 0 0) := (blk_cell hr2 0).trans rfl
  have f1 := blk_frozen hr2 0
  clear hd hr2
  go_wp2_with fail
  refine bodyPost_ret (results_ct rfl _ _ (w.heap.size + 1) 26 #[.slice none 0 0] (0, 0) _ rfl (blk_put (cs := #[.slice none 0 0]) HR2.out 0 _ rfl) Try.underlying26 rfl (by kernel_rfl)) rfl ?_
  exact ⟨_, rfl, Kd.N_nil _ _ _ _ _, below_set HB.out (Nat.le_succ _)⟩

set_option maxRecDepth 100000 in
set_option maxHeartbeats 1000000 in
theorem drop_no (P0_0_ : Nat → Prop) (A0 : Option Addr) (c0 : Nat) (l0 : List Cell) (A1 : Option Addr) (c1 : Nat) (s : Int) (w : World) (hr0 : Kd.C kC w A0 l0.length l0) (hc0 : l0.length ≤ c0) (hr1 : Kd.C (Kd.int .i64) w A1 [s].length [s])
    (hok : arenaOk l0 = true) (hh : P.arena_has.f l0 s = some false) :
    Calls Try.prog 21 #[.agg #[.slice A0 l0.length c0], .slice A1 1 c1] w fun e w' => ∃ v0_ : Value, e = .returned (.tuple #[.agg #[v0_], .int .i64 191]) ∧ Kd.N kC 36 w' w.heap.size (fun k_ => P0_0_ k_ ∨ w.heap.size ≤ k_) v0_ [] ∧ Below w.heap.size w w' := by
  obtain ⟨ad, e210, hx0⟩ := Kd.at_int hr1 0 (by decide) (by simp)
  cases e210
  obtain ⟨w1, hw1⟩ : ∃ w1, w1 = (w.alloc (.cells #[.slice A0 l0.length c0] 26)).alloc (.cells #[.slice none 0 0] 26) := ⟨_, rfl⟩
  have HB1 := Aside0.mk (show Below w.heap.size w w1 by rw [hw1]; exact ((Below.refl _ _).alloc (Nat.le_refl _) _).alloc (by simp) _)
  have hsz : (w.alloc (.cells #[.slice A0 l0.length c0] 26)).heap.size = w.heap.size + 1 := by simp
  have hblk : w1.heap[w.heap.size]? = some (.cells #[.slice A0 l0.length c0] 26 (0, 0)) := by rw [hw1]; exact (Below.heap_alloc _ _ _ (by simp)).trans (heap_alloc_new w _)
  have hres : w1.heap[w.heap.size + 1]? = some (.cells #[.slice none 0 0] 26 (0, 0)) := by rw [hw1, ← hsz]; exact heap_alloc_new _ _
  have HBK := Aside0.mk hblk
  have HRS := Aside0.mk hres
  have q0 : w1.cell? ⟨w.heap.size, 0, none⟩ = some (.slice A0 l0.length c0) := (blk_cell hblk 0).trans rfl
  have HCK := Aside0.mk (arena_Check.calls A0 c0 l0 (if arenaOk l0 = true then 0 else 190) w1 (Kd.C_below hr0 HB1.out) hc0 rfl)
  have HW := Aside0.mk hw1
  rw [hok] at HCK
  rw [if_pos rfl] at HCK
  have HR0 := Aside0.mk hr0
  have HC0 := Aside0.mk hc0
  have HX0 := Aside0.mk hx0
  have HH := Aside0.mk hh
  clear hblk hw1 hr0 hc0 hok hres hx0 hr1 hh
  have hmm := @run_makeMap Try.prog
  go_enter Try.func21, Try.ntmps21
  go_upto_region 1 with (fail)
  rw [← HW.out]
  go_wp2_with fail
  refine HCK.out.mono ?_
  rintro e w2 ⟨rfl, hd⟩
  obtain ⟨w3, hw3⟩ : ∃ w3, w3 = w2.alloc (.map #[] 0) := ⟨_, rfl⟩
  have HB3 := Aside0.mk (show Below w.heap.size w w3 by rw [hw3]; exact (below_step HB1.out hd).alloc (by have := HB1.out.size; have := hd.size; omega) _)
  have hb3 := blk_below HBK.out hd
  have hr2 := blk_below HRS.out hd
  have hb3' : w3.heap[w.heap.size]? = some (.cells #[.slice A0 l0.length c0] 26 (0, 0)) := by rw [hw3]; exact (Below.heap_alloc _ _ _ (blk_lt hb3)).trans hb3
  have hr3 : w3.heap[w.heap.size + 1]? = some (.cells #[.slice none 0 0] 26 (0, 0)) := by rw [hw3]; exact (Below.heap_alloc _ _ _ (blk_lt hr2)).trans hr2
  have hm3 : BM w3 w2.heap.size [] := by rw [hw3]; exact BM_new w2
  have HR3 := Aside0.mk hr3
  have q0 : w3.cell? ⟨w.heap.size, 0, none⟩ = some (.slice A0 l0.length c0) := (blk_cell hb3' 0).trans rfl
  have HL := Aside0.mk (run_look (P := Try.prog) w3 w2.heap.size [] s Try.underlying49 Try.underlying3 (by rfl) hm3)
  have HHC := Aside0.mk (P.arena_has.calls A0 c0 l0 s false w3 (Kd.C_below HR0.out HB3.out) HC0.out HH.out)
  have hx3 : w3.cell? (ad.add ((0 : Int).toNat)) = some (.int .i64 (rd [s] 0)) := (HB3.out.cell (World.block_lt_of_cell? w _ HX0.out)).trans HX0.out
  have hx4 : w3.cell? ad = some (.int .i64 s) := by have e : ad.add ((0 : Int).toNat) = ad := (by first | rfl | (cases ad; rfl) | (cases ad; simp [Addr.add])); rw [e] at hx3; exact hx3
  have HW3 := Aside0.mk hw3
  clear hd hb3 hr2 hb3' hr3 hm3 hw3 hx3
  go_wp2_with fail
  rw [← HW3.out]
  go_loopg [20] 1 (fun gg v20 wr => v20 = .int .i64 0 ∧ wr = w3)
  case atStart => exact ⟨rfl, rfl⟩
  case round =>
    obtain ⟨rfl, rfl⟩ := hrel
    have hl := HL.out
    go_wp2_with fail
    refine HHC.out.mono ?_
    rintro e w4 ⟨rfl, hd⟩
    have HB4 := Aside0.mk (below_step HB3.out hd)
    have hr4 := blk_below HR3.out hd
    have HR4 := Aside0.mk hr4
    have q1 : w4.cell? ⟨w.heap.size + 1, 0, none⟩ = some (.slice none 0 0) := (blk_cell hr4 0).trans rfl
    have f1 := blk_frozen hr4 0
    clear hd hr4
    go_wp2_with fail
    refine bodyPost_ret (results_ct rfl _ _ (w.heap.size + 1) 26 #[.slice none 0 0] (0, 0) _ rfl (blk_put (cs := #[.slice none 0 0]) HR4.out 0 _ rfl) Try.underlying26 rfl (by kernel_rfl)) rfl ?_
    exact ⟨_, rfl, Kd.N_nil _ _ _ _ _, below_set HB4.out (Nat.le_succ _)⟩

theorem drop_size {w : World} {m : Nat} {o : Obj} : ({ w with heap := w.heap.setIfInBounds m o } : World).heap.size = w.heap.size := Array.size_setIfInBounds ..
theorem drop_far {w : World} {m k : Nat} {o : Obj} (h : k ≠ m) : ({ w with heap := w.heap.setIfInBounds m o } : World).heap[k]? = w.heap[k]? := by
  show (w.heap.setIfInBounds m o)[k]? = _
  simp [Ne.symm h]
theorem drop_below {w W : World} {m : Nat} {o : Obj} (h : Below w.heap.size w W) (hm : w.heap.size ≤ m) : Below w.heap.size w { W with heap := W.heap.setIfInBounds m o } :=
  ⟨h.os, h.tape, h.output, by rw [drop_size]; exact h.size, fun k hk => (drop_far (by omega)).trans (h.block k hk)⟩
set_option maxRecDepth 100000 in
set_option maxHeartbeats 1000000 in
theorem drop_yes (P0_0_ : Nat → Prop) (A0 : Option Addr) (c0 : Nat) (l0 : List Cell) (A1 : Option Addr) (c1 : Nat) (s : Int) (w : World) (hs0 : Kd.V kC 36 w w.heap.size (fun k_ => P0_0_ k_) (.slice A0 l0.length c0) l0) (hr1 : Kd.C (Kd.int .i64) w A1 [s].length [s])
    (hok : arenaOk l0 = true) (hh : P.arena_has.f l0 s = some true) (hs : 0 ≤ s) (hs1 : s < l0.length) :
    Calls Try.prog 21 #[.agg #[.slice A0 l0.length c0], .slice A1 1 c1] w fun e w' => ∃ v0_ : Value, e = .returned (.tuple #[.agg #[v0_], .int .i64 0]) ∧ Kd.N kC 36 w' w.heap.size (fun k_ => P0_0_ k_ ∨ w.heap.size ≤ k_) v0_ (l0.set s.toNat P.z36) ∧ Below w.heap.size w w' := by
  obtain ⟨n, rfl⟩ : ∃ n : Nat, s = n := ⟨s.toNat, by omega⟩
  obtain ⟨A_, c_, he_, hc0, hF_⟩ := id hs0
  injection he_ with e1 e2 e3
  subst e1
  subst e3
  clear e2
  have hr0 : Kd.C kC w A0 l0.length l0 := Kd.F_now hF_
  have hl96 : l0.length = 96 := by
    unfold arenaOk at hok
    rw [Bool.and_eq_true] at hok
    exact of_decide_eq_true hok.1
  have HL96 := Aside0.mk hl96
  have HV0 := Aside0.mk hs0
  have HS0 := Aside0.mk hs
  have HS1 := Aside0.mk hs1
  clear hF_ hl96 hs0 hs hs1
  obtain ⟨ad, e210, hx0⟩ := Kd.at_int hr1 0 (by decide) (by simp)
  cases e210
  obtain ⟨w1, hw1⟩ : ∃ w1, w1 = (w.alloc (.cells #[.slice A0 l0.length c0] 26)).alloc (.cells #[.slice none 0 0] 26) := ⟨_, rfl⟩
  have HB1 := Aside0.mk (show Below w.heap.size w w1 by rw [hw1]; exact ((Below.refl _ _).alloc (Nat.le_refl _) _).alloc (by simp) _)
  have hsz : (w.alloc (.cells #[.slice A0 l0.length c0] 26)).heap.size = w.heap.size + 1 := by simp
  have hblk : w1.heap[w.heap.size]? = some (.cells #[.slice A0 l0.length c0] 26 (0, 0)) := by rw [hw1]; exact (Below.heap_alloc _ _ _ (by simp)).trans (heap_alloc_new w _)
  have hres : w1.heap[w.heap.size + 1]? = some (.cells #[.slice none 0 0] 26 (0, 0)) := by rw [hw1, ← hsz]; exact heap_alloc_new _ _
  have HBK := Aside0.mk hblk
  have HRS := Aside0.mk hres
  have q0 : w1.cell? ⟨w.heap.size, 0, none⟩ = some (.slice A0 l0.length c0) := (blk_cell hblk 0).trans rfl
  have HCK := Aside0.mk (arena_Check.calls A0 c0 l0 (if arenaOk l0 = true then 0 else 190) w1 (Kd.C_below hr0 HB1.out) hc0 rfl)
  have HW := Aside0.mk hw1
  rw [hok] at HCK
  rw [if_pos rfl] at HCK
  have HR0 := Aside0.mk hr0
  have HC0 := Aside0.mk hc0
  have HX0 := Aside0.mk hx0
  have HH := Aside0.mk hh
  clear hblk hw1 hr0 hc0 hok hres hx0 hr1 hh
  have hmm := @run_makeMap Try.prog
  go_enter Try.func21, Try.ntmps21
  go_upto_region 1 with (fail)
  rw [← HW.out]
  go_wp2_with fail
  refine HCK.out.mono ?_
  rintro e w2 ⟨rfl, hd⟩
  obtain ⟨w3, hw3⟩ : ∃ w3, w3 = w2.alloc (.map #[] 0) := ⟨_, rfl⟩
  have HB3 := Aside0.mk (show Below w.heap.size w w3 by rw [hw3]; exact (below_step HB1.out hd).alloc (by have := HB1.out.size; have := hd.size; omega) _)
  have hb3 := blk_below HBK.out hd
  have hr2 := blk_below HRS.out hd
  have hb3' : w3.heap[w.heap.size]? = some (.cells #[.slice A0 l0.length c0] 26 (0, 0)) := by rw [hw3]; exact (Below.heap_alloc _ _ _ (blk_lt hb3)).trans hb3
  have hr3 : w3.heap[w.heap.size + 1]? = some (.cells #[.slice none 0 0] 26 (0, 0)) := by rw [hw3]; exact (Below.heap_alloc _ _ _ (blk_lt hr2)).trans hr2
  have hm3 : BM w3 w2.heap.size [] := by rw [hw3]; exact BM_new w2
  have HR3 := Aside0.mk hr3
  have HBX3 := Aside0.mk hb3'
  have HM3 := Aside0.mk hm3
  have HMB := Aside0.mk (show w.heap.size + 2 ≤ w2.heap.size by have h1 := hd.size; have h2 : w1.heap.size = w.heap.size + 2 := (by rw [HW.out]; simp); omega)
  have q0 : w3.cell? ⟨w.heap.size, 0, none⟩ = some (.slice A0 l0.length c0) := (blk_cell hb3' 0).trans rfl
  have HL := Aside0.mk (run_look (P := Try.prog) w3 w2.heap.size [] (n : Int) Try.underlying49 Try.underlying3 (by rfl) hm3)
  have HHC := Aside0.mk (P.arena_has.calls A0 c0 l0 (n : Int) true w3 (Kd.C_below HR0.out HB3.out) HC0.out HH.out)
  have hx3 : w3.cell? (ad.add ((0 : Int).toNat)) = some (.int .i64 (rd [(n : Int)] 0)) := (HB3.out.cell (World.block_lt_of_cell? w _ HX0.out)).trans HX0.out
  have hx4 : w3.cell? ad = some (.int .i64 (n : Int)) := by have e : ad.add ((0 : Int).toNat) = ad := (by first | rfl | (cases ad; rfl) | (cases ad; simp [Addr.add])); rw [e] at hx3; exact hx3
  have HW3 := Aside0.mk hw3
  clear hd hb3 hr2 hb3' hr3 hm3 hw3 hx3
  go_wp2_with fail
  rw [← HW3.out]
  go_loopg [20] 2 (fun gg v20 wr => (v20 = .int .i64 0 ∧ wr = w3 ∧ 1 ≤ gg) ∨ (v20 = .int .i64 1 ∧ Aside0 (Below w.heap.size w wr) ∧ Aside0 (BM wr w2.heap.size [(n : Int)]) ∧ Aside0 (wr.heap[w.heap.size]? = some (.cells #[.slice A0 l0.length c0] 26 (0, 0))) ∧ Aside0 (wr.heap[w.heap.size + 1]? = some (.cells #[.slice none 0 0] 26 (0, 0)))))
  case atStart => exact .inl ⟨rfl, rfl, by omega⟩
  case round =>
    rcases hrel with ⟨rfl, rfl, hgg⟩ | ⟨rfl, HBw, HMw, HXw, HRw⟩
    · have hl := HL.out
      go_wp2_with fail
      refine HHC.out.mono ?_
      rintro e w4 ⟨rfl, hd⟩
      have HB4 := Aside0.mk (below_step HB3.out hd)
      have HR4 := Aside0.mk (blk_below HR3.out hd)
      have HX4 := Aside0.mk (blk_below HBX3.out hd)
      have hm4 : BM w4 w2.heap.size [] := blk_below HM3.out hd
      have hst := run_store (P := Try.prog) w4 w2.heap.size [] (n : Int) Try.underlying49 Try.underlying3 hm4 (by simp)
      have HM4 := Aside0.mk hm4
      clear hd hm4
      obtain ⟨k1, rfl⟩ : ∃ k1, gk = k1 + 1 := ⟨gk - 1, by omega⟩
      go_wp2_with fail
      go_roundg k1
      case measure => omega
      case rel =>
        have hmb := HMB.out
        exact .inr ⟨rfl, ⟨drop_below HB4.out (by omega)⟩, ⟨BM_store HM4.out⟩, ⟨(drop_far (by omega)).trans HX4.out⟩, ⟨(drop_far (by omega)).trans HR4.out⟩⟩
    · have hmb := HMB.out
      have hl96 := HL96.out
      have hV : Kd.V kC 36 wr wr.heap.size (fun k_ => ((P0_0_ k_ ∧ k_ ≠ w.heap.size) ∧ k_ ≠ w.heap.size + 1) ∧ k_ ≠ w2.heap.size) (.slice A0 l0.length c0) l0 :=
        Kd.V_below (Kd.V_elderB (Kd.V_elderB (Kd.V_elderB HV0.out w.heap.size (Nat.le_refl _)) (w.heap.size + 1) (Nat.le_succ _)) w2.heap.size (by omega)) HBw.out
      have hcpf : P.arena_copied.f l0 = some l0 := by
        unfold P.arena_copied.f clone_Cell.f
        rw [if_pos (by omega)]; rfl
      have HCP := Aside0.mk (P.arena_copied.calls _ A0 c0 l0 l0 wr hV hcpf)
      have q0 : wr.cell? ⟨w.heap.size, 0, none⟩ = some (.slice A0 l0.length c0) := (blk_cell HXw.out 0).trans rfl
      clear hV hcpf hmb hl96
      go_wp2_with fail
      refine HCP.out.mono ?_
      rintro e w6 ⟨v6, rfl, hN, hd⟩
      obtain ⟨go, co, eo, gb, gl, cl, HG⟩ := Kd.N_form hN (by have := HL96.out; omega)
      subst eo
      have hmb := HMB.out
      have hmw := blk_lt HMw.out
      have hx6 := blk_below HXw.out hd
      have hr6 := blk_below HRw.out hd
      have hm6 : BM w6 w2.heap.size [(n : Int)] := blk_below HMw.out hd
      have hB6 := below_step HBw.out hd
      have hN6 : Kd.N kC 36 w6 w.heap.size (fun k_ => (P0_0_ k_ ∨ w.heap.size ≤ k_) ∧ k_ ≠ w.heap.size ∧ k_ ≠ w.heap.size + 1 ∧ k_ ≠ w2.heap.size) (.slice (some ⟨go, 0, none⟩) l0.length co) l0 :=
        Kd.N_lower (Kd.N_mono hN (fun k hk => by
          rcases hk with hk | hk
          · exact ⟨.inl hk.1.1.1, hk.1.1.2, hk.1.2, hk.2⟩
          · exact ⟨.inr (by omega), by omega, by omega, by omega⟩)) (by omega)
      have q0 : w6.cell? ⟨w.heap.size, 0, none⟩ = some (.slice A0 l0.length c0) := (blk_cell hx6 0).trans rfl
      have f0 := blk_frozen hx6 0
      obtain ⟨w7, hw7⟩ : ∃ w7, w7 = w6.setCell ⟨w.heap.size, 0, none⟩ (.slice (some ⟨go, 0, none⟩) l0.length co) := ⟨_, rfl⟩
      have HN7 := Aside0.mk (show Kd.N kC 36 w7 w.heap.size (fun k_ => (P0_0_ k_ ∨ w.heap.size ≤ k_) ∧ k_ ≠ w.heap.size ∧ k_ ≠ w.heap.size + 1 ∧ k_ ≠ w2.heap.size) (.slice (some ⟨go, 0, none⟩) l0.length co) l0 by
        rw [hw7]; exact Kd.N_far (p := ⟨w.heap.size, 0, none⟩) hN6 (fun k hk => hk.2.1) _)
      have hm7 : BM w7 w2.heap.size [(n : Int)] := by rw [hw7]; exact (Below.heap_setCell _ _ _ _ (by show w2.heap.size ≠ w.heap.size; omega)).trans hm6
      have HX7 := Aside0.mk (show w7.heap[w.heap.size]? = some (.cells #[.slice (some ⟨go, 0, none⟩) l0.length co] 26 (0, 0)) by rw [hw7]; exact blk_put (cs := #[.slice A0 l0.length c0]) hx6 0 _ rfl)
      have HR7 := Aside0.mk (show w7.heap[w.heap.size + 1]? = some (.cells #[.slice none 0 0] 26 (0, 0)) by rw [hw7]; exact (Below.heap_setCell _ _ _ _ (by show w.heap.size + 1 ≠ w.heap.size; omega)).trans hr6)
      have HB7 := Aside0.mk (show Below w.heap.size w w7 by rw [hw7]; exact below_set hB6 (Nat.le_refl _))
      have HM7 := Aside0.mk hm7
      have hrg := run_range1 (P := Try.prog) w7 w2.heap.size (n : Int) Try.underlying49 hm7
      have HW7 := Aside0.mk hw7
      clear hmb hmw hx6 hr6 hm6 hB6 hN6 hN hd hm7 hw7 gb gl HG
      go_upto_region 13 with (fail)
      rw [← HW7.out]
      clear q0 f0
      go_wp2_with fail
      have hsl : go < w7.heap.size := Kd.N_lt HN7.out go rfl
      have hmb := HMB.out
      have hml := blk_lt HM7.out
      have hnl : n < l0.length := by have := HS1.out; omega
      have hB7 := HB7.out.size
      obtain ⟨w8, hw8⟩ : ∃ w8, w8 = w7.alloc (.mapIter (some w2.heap.size) 1 #[] 1) := ⟨_, rfl⟩
      have hz8 : w8.heap.size = w7.heap.size + 1 := by rw [hw8]; simp
      have ho8 : ∀ k, k < w7.heap.size → w8.heap[k]? = w7.heap[k]? := fun k hk => by rw [hw8]; exact Below.heap_alloc _ _ _ hk
      have hi8 : w8.heap[w7.heap.size]? = some (.mapIter (some w2.heap.size) 1 #[] 1) := by rw [hw8]; exact heap_alloc_new w7 _
      have hm8 : BM w8 w2.heap.size [(n : Int)] := (ho8 _ hml).trans HM7.out
      have hnx := fun ty => run_next1 (P := Try.prog) w8 ty w7.heap.size w2.heap.size (n : Int) hi8 hm8
      obtain ⟨w9, hw9⟩ : ∃ w9, w9 = ({ w8 with heap := w8.heap.setIfInBounds w7.heap.size (.mapIter (some w2.heap.size) 1 #[0] 1) } : World) := ⟨_, rfl⟩
      have ho9 : ∀ k, k < w7.heap.size → w9.heap[k]? = w7.heap[k]? := fun k hk => by rw [hw9]; exact (drop_far (by omega)).trans (ho8 k hk)
      have hi9 : w9.heap[w7.heap.size]? = some (.mapIter (some w2.heap.size) 1 #[0] 1) := by rw [hw9]; exact (MapKept.heap_set hi8).1
      have hm9 : BM w9 w2.heap.size [(n : Int)] := (ho9 _ hml).trans HM7.out
      have hz9 : w9.heap.size = w7.heap.size + 1 := by rw [hw9, drop_size, hz8]
      have hB9 : Below w.heap.size w w9 := by rw [hw9]; exact drop_below (by rw [hw8]; exact HB7.out.alloc hB7 _) hB7
      have hen := run_entry1 (P := Try.prog) w9 w7.heap.size w2.heap.size (n : Int) hi9 hm9
      have hN9 : Kd.N kC 36 w9 w.heap.size (fun k_ => (P0_0_ k_ ∨ w.heap.size ≤ k_) ∧ k_ ≠ w.heap.size ∧ k_ ≠ w.heap.size + 1 ∧ k_ ≠ w2.heap.size) (.slice (some ⟨go, 0, none⟩) l0.length co) l0 := Kd.N_step HN7.out (fun k _ hk => ho9 k hk)
      have hx9 := (ho9 _ (by omega)).trans HX7.out
      have hr9 := (ho9 _ (by omega)).trans HR7.out
      obtain ⟨A, c, _, q0, q1, q2, q3, q4, z0, z1, z2, z3, z4⟩ := own_cell hN9 n hnl
      have hFz : Kd.FK kC w9 (fun k => ((P0_0_ k ∨ w.heap.size ≤ k) ∧ k ≠ w.heap.size ∧ k ≠ w.heap.size + 1 ∧ k ≠ w2.heap.size) ∧ k ≠ go) P.z36 (cL P.z36 none 0) :=
        P.k36_mkF _ _ _ (Nat.le_refl _) (Kd.F_nil _ _ _)
      obtain ⟨hN10, hg10⟩ := put_cell hN9 n hnl hFz
      obtain ⟨w10, hw10⟩ : ∃ w10, w10 = (((((w9.setCell ⟨go, n * 5, none⟩ (.bool false)).setCell ⟨go, n * 5 + 1, none⟩ (.int .u64 0)).setCell ⟨go, n * 5 + 2, none⟩ (.int .u64 0)).setCell ⟨go, n * 5 + 3, none⟩ (.int .u64 0)).setCell ⟨go, n * 5 + 4, none⟩ (.slice none 0 0)) := ⟨_, rfl⟩
      have HN10 := Aside0.mk (show Kd.N kC 36 w10 w.heap.size (fun k_ => (P0_0_ k_ ∨ w.heap.size ≤ k_) ∧ k_ ≠ w.heap.size ∧ k_ ≠ w.heap.size + 1 ∧ k_ ≠ w2.heap.size) (.slice (some ⟨go, 0, none⟩) l0.length co) (l0.set n P.z36) by rw [hw10]; exact hN10)
      have hgg : w9.grownBy w10 (some go) := by rw [hw10]; exact hg10
      have hok9 := hN9.1 go rfl
      have ho10 : ∀ k, k < w9.heap.size → k ≠ go → w10.heap[k]? = w9.heap[k]? := fun k hk hne => hgg.block k hk (fun e => hne (by injection e))
      have hi10 := (ho10 w7.heap.size (by omega) (by omega)).trans hi9
      have hm10 : BM w10 w2.heap.size [(n : Int)] := (ho10 _ (by omega) (fun e => hok9.2.2.2 e.symm)).trans hm9
      have hnx2 := fun ty => run_next2 (P := Try.prog) w10 ty w7.heap.size w2.heap.size (n : Int) hi10 hm10
      have hx10 := (ho10 _ (by omega) (fun e => hok9.2.1 e.symm)).trans hx9
      have HR10 := Aside0.mk ((ho10 _ (by omega) (fun e => hok9.2.2.1 e.symm)).trans hr9)
      have HB10 := Aside0.mk (hB9.grown hgg hB9.size (fun k e => by injection e with e; subst e; exact Kd.N_base hN9 _ rfl))
      rw [← hw9] at hnx
      have p0 : w9.cell? ⟨w.heap.size, 0, none⟩ = some (.slice (some ⟨go, 0, none⟩) l0.length co) := (blk_cell hx9 0).trans rfl
      have p10 : w10.cell? ⟨w.heap.size, 0, none⟩ = some (.slice (some ⟨go, 0, none⟩) l0.length co) := (blk_cell hx10 0).trans rfl
      have r10 : w10.cell? ⟨w.heap.size + 1, 0, none⟩ = some (.slice none 0 0) := (blk_cell HR10.out 0).trans rfl
      have fr10 := blk_frozen HR10.out 0
      have hnlz : (n : Int) < (l0.length : Int) := by omega
      have HW8 := Aside0.mk hw8
      have HW10 := Aside0.mk hw10
      clear hsl hmb hml hnl hB7 hz8 ho8 hi8 hm8 hw8 hw9 ho9 hi9 hm9 hz9 hB9 hN9 hx9 hr9 hFz hN10 hg10 hgg hok9 ho10 hi10 hm10 hx10 hw10 hrg
      rw [← HW8.out]
      go_loopg [10] 2 (fun gg _ wr => (wr = w8 ∧ 1 ≤ gg) ∨ wr = w10)
      case atStart => exact .inl ⟨rfl, by omega⟩
      case round =>
        rcases hrel with ⟨rfl, hgg⟩ | rfl
        · obtain ⟨k1, rfl⟩ : ∃ k1, gk = k1 + 1 := ⟨gk - 1, by omega⟩
          go_wp2_with fail
          go_roundg k1
          case measure => omega
          case rel => exact .inr HW10.out.symm
        · go_wp2_with fail
          refine bodyPost_ret (results_ct rfl _ _ (w.heap.size + 1) 26 #[.slice (some ⟨go, 0, none⟩) l0.length co] (0, 0) _ rfl (blk_put (cs := #[.slice none 0 0]) HR10.out 0 _ rfl) Try.underlying26 rfl (by kernel_rfl)) rfl ?_
          exact ⟨_, rfl, Kd.N_mono (Kd.N_far (p := ⟨w.heap.size + 1, 0, none⟩) HN10.out (fun k hk => hk.2.2.1) _) (fun k hk => hk.1), below_set HB10.out (Nat.le_succ _)⟩
theorem has_is (l : List Cell) (s : Int) : P.arena_has.f l s = some (decide (0 ≤ s ∧ s < l.length) && (l.getD s.toNat P.z36).f0) := by
  unfold P.arena_has.f P.rd_T36
  by_cases h0 : s ≥ 0
  · rw [if_pos h0]
    by_cases h1 : s < (l.length : Int)
    · rw [if_pos h1, if_pos (by omega), decide_eq_true (show 0 ≤ s ∧ s < (l.length : Int) from ⟨by omega, h1⟩), Bool.true_and]
    · rw [if_neg h1, decide_eq_false (show ¬ (0 ≤ s ∧ s < (l.length : Int)) by omega), Bool.false_and]
  · rw [if_neg h0, decide_eq_false (show ¬ (0 ≤ s ∧ s < (l.length : Int)) by omega), Bool.false_and]
/-- arena.Drop of one slot: the contract. -/
theorem arena_Drop.calls (P0_0_ : Nat → Prop) (A0 : Option Addr) (c0 : Nat) (l0 : List Cell) (A1 : Option Addr) (c1 : Nat) (s : Int) (r1 : List Cell) (r2 : Int) (w : World) (hs0 : Kd.V kC 36 w w.heap.size (fun k_ => P0_0_ k_) (.slice A0 l0.length c0) l0) (hr1 : Kd.C (Kd.int .i64) w A1 [s].length [s]) (h : arena_Drop.f l0 s = some (r1, r2)) :
    Calls Try.prog 21 #[.agg #[.slice A0 l0.length c0], .slice A1 1 c1] w fun e w' => ∃ v0_ : Value, e = .returned (.tuple #[.agg #[v0_], .int .i64 r2]) ∧ Kd.N kC 36 w' w.heap.size (fun k_ => P0_0_ k_ ∨ w.heap.size ≤ k_) v0_ r1 ∧ Below w.heap.size w w' := by
  obtain ⟨A_, c_, he_, hc0, hF_⟩ := id hs0
  injection he_ with e1 e2 e3
  subst e1
  subst e3
  have hr0 : Kd.C kC w A0 l0.length l0 := Kd.F_now hF_
  unfold arena_Drop.f at h
  cases hok : arenaOk l0 with
  | false =>
    rw [hok, if_neg (by decide)] at h
    simp only [Option.some.injEq, Prod.mk.injEq] at h
    obtain ⟨rfl, rfl⟩ := h
    exact drop_bad P0_0_ A0 c0 l0 A1 c1 s w hr0 hc0 hok
  | true =>
    rw [hok, if_pos rfl, has_is, Option.bind_some] at h
    have hh := has_is l0 s
    cases hb : (decide (0 ≤ s ∧ s < l0.length) && (l0.getD s.toNat P.z36).f0) with
    | false =>
      rw [hb, if_neg (by decide)] at h
      rw [hb] at hh
      simp only [Option.some.injEq, Prod.mk.injEq] at h
      obtain ⟨rfl, rfl⟩ := h
      exact drop_no P0_0_ A0 c0 l0 A1 c1 s w hr0 hc0 hr1 hok hh
    | true =>
      rw [hb, if_pos rfl] at h
      rw [hb] at hh
      simp only [Option.some.injEq, Prod.mk.injEq] at h
      obtain ⟨rfl, rfl⟩ := h
      rw [Bool.and_eq_true] at hb
      obtain ⟨h1, h2⟩ := of_decide_eq_true hb.1
      exact drop_yes P0_0_ A0 c0 l0 A1 c1 s w hs0 hr1 hok hh h1 h2
end

end Go.Proofs.Ytoblkjdiahoplaa.G
