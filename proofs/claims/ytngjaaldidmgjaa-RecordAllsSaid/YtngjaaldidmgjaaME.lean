/- The writer of a record: its state, and contracts of bytes, longs, vec. The writer of a record: contracts of longs, vec. The writer of a record: contracts of drop, vacuum, create. The writer of a record: contract of train. The writer of a record: contract of commit. A map of ints to functions that the call has made: a key's laying, the look-up. Contract of record.Encode. -/
import Derived.Test.YtngjaaldidmgjaaMD
import Derived.Test.YtngjaaldidmgjaaMC
import Derived.Handy
import Derived.BigQuiet
import Derived.MapKept
namespace Go.Proofs.Ytngjaaldidmgjaa.G

section
open Go.Shelf Go.RowKit Go.Proofs.YtngjaaldidmgjaaW.PrintWords Go.Proofs.YtngjaaldidmgjaaW.PrintLast Go.Proofs.YtngjaaldidmgjaaW.PrintMore
set_option linter.unusedVariables false
set_option linter.unusedSimpArgs false

/-- What is neither block g nor a row of bytes stays. -/
def FT (g : Nat) (w w1 : World) : Prop := w.heap.size ≤ w1.heap.size ∧ ∀ (k : Nat) (cells : Array Value) (t : Nat), w.heap[k]? = some (.cells cells t (0, 0)) → k ≠ g → t ≠ 5 → w1.heap[k]? = some (.cells cells t (0, 0))
theorem FT.refl (g : Nat) (w : World) : FT g w w := ⟨Nat.le_refl _, fun _ _ _ h _ _ => h⟩
theorem FT.trans {g : Nat} {w w1 w2 : World} (h : FT g w w1) (k : FT g w1 w2) : FT g w w2 := ⟨Nat.le_trans h.1 k.1, fun j cs t hj hg ht => k.2 j cs t (h.2 j cs t hj hg ht) hg ht⟩
theorem FT.below {g : Nat} {w w1 : World} (h : Below w.heap.size w w1) : FT g w w1 := ⟨h.size, fun k cs t hk _ _ => (h.block k (blk_lt hk)).trans hk⟩
theorem FT.set {g : Nat} (w : World) (j : Nat) (u : Value) : FT g w (w.setCell ⟨g, j, none⟩ u) := ⟨by simp [World.setCell], fun k cs t hk hg _ => blk_far hk (p := ⟨g, j, none⟩) hg u⟩
theorem FT.grown {g : Nat} {w w1 : World} {base : Nat} {ok : Nat → Prop} {v : Value} {b : List Int} (hr : Kd.R (Kd.int .u8) 5 w base ok v b) (h : w.grownBy w1 v.ownBlock) : FT g w w1 :=
  ⟨h.size, fun k cs t hk _ ht => (h.block k (blk_lt hk) (Kd.R_ne hr hk (Ne.symm ht))).trans hk⟩

/-- The cells of a record. -/
structure C7 where
  (c0 c1 c2 c3 c4 c5 c6 : Value)
def C7.blk (q : C7) (v : Value) : Obj := .cells #[q.c0, q.c1, q.c2, q.c3, q.c4, q.c5, q.c6, v] 126 (0, 0)

/-- The writer at block g. -/
def IsWr (w0 w : World) (g : Nat) (q : C7) (b : List Int) : Prop :=
  ∃ v, w.heap[g]? = some (.cells #[q.c0, q.c1, q.c2, q.c3, q.c4, q.c5, q.c6, v] 126 (0, 0)) ∧ w0.heap.size ≤ g ∧ Kd.R (Kd.int .u8) 5 w w0.heap.size (fun _ => True) v b ∧ Below w0.heap.size w0 w
theorem IsWr.below {w0 w w1 : World} {g : Nat} {q : C7} {b : List Int} (h : IsWr w0 w g q b) (hb : Below w.heap.size w w1) : IsWr w0 w1 g q b := by
  obtain ⟨v, h1, h2, h3, h4⟩ := h
  exact ⟨v, blk_below h1 hb, h2, Kd.R_below h3 hb, below_step h4 hb⟩
theorem IsWr.lt {w0 w : World} {g : Nat} {q : C7} {b : List Int} (h : IsWr w0 w g q b) : g < w.heap.size := by
  obtain ⟨v, h1, _⟩ := h
  exact blk_lt h1
theorem IsWr.put {w0 w1 : World} {g : Nat} {q : C7} {v v1 : Value} {b' : List Int} (h1 : w1.heap[g]? = some (.cells #[q.c0, q.c1, q.c2, q.c3, q.c4, q.c5, q.c6, v] 126 (0, 0))) (h2 : w0.heap.size ≤ g) (h3 : Kd.R (Kd.int .u8) 5 w1 w0.heap.size (fun _ => True) v1 b') (h4 : Below w0.heap.size w0 w1) :
    IsWr w0 (w1.setCell ⟨g, 7, none⟩ v1) g q b' :=
  ⟨v1, by simpa using blk_set h1 7 v1, h2, Kd.R_set h3 h1 (by decide) 7 _, h4.setCell (p := ⟨g, 7, none⟩) h2 _⟩

set_option maxHeartbeats 4000000 in
set_option maxRecDepth 100000 in
theorem wBytes (w0 w : World) (g B : Nat) (q : C7) (b l : List Int) (c : Nat) (hI : IsWr w0 w g q b) (hB : w.heap[B]? = some (.cells (l.map (Value.int .i64)).toArray 3 (0, 0))) (hc : l.length ≤ c) (hl : l.length ≤ 1000) (hbl : b.length ≤ 100000) :
    Calls Try.prog 95 #[.pointer (some ⟨g, 0, none⟩), .slice (some ⟨B, 0, none⟩) l.length c] w fun e w' => e = .returned (.tuple #[]) ∧ IsWr w0 w' g q (b ++ l.map (· % 256)) ∧ FT g w w' := by
  have HI := Aside0.mk hI
  have HB := Aside0.mk hB
  have hgB : B ≠ g := by
    obtain ⟨v, h1, _⟩ := hI
    exact blk_ne hB h1 (by decide)
  have HBG := Aside0.mk hgB
  clear hI hB hgB
  go_enter Try.func95, Try.ntmps95
  go_wp2_with fail
  go_loopg [5, 8] l.length (fun gg _ s8 wr => ∃ kk : Nat, kk ≤ l.length ∧ l.length - kk ≤ gg ∧ s8 = .int .i64 kk ∧ Aside0 (IsWr w0 wr g q (b ++ (l.take kk).map (· % 256))) ∧ Aside0 (FT g w wr))
  case atStart => exact ⟨0, by omega, by omega, rfl, ⟨by simpa using HI.out⟩, ⟨FT.refl _ _⟩⟩
  case round =>
    obtain ⟨kk, hkk, hg, rfl, HIk, HFk⟩ := hrel
    by_cases hlt : kk < l.length
    · have hltz : (kk : Int) < (l.length : Int) := by omega
      obtain ⟨v, h1, h2, h3, h4⟩ := HIk.out
      have hBk := HFk.out.2 B _ _ HB.out HBG.out (by decide)
      have qx : wr.cell? ⟨B, kk, none⟩ = some (.int .i64 l[kk]) := (blk_cell hBk kk).trans (by simp [hlt])
      have HNX := Aside0.mk (show (b ++ (l.take kk).map (· % 256)) ++ [l[kk] % 256] = b ++ (l.take (kk + 1)).map (· % 256) by
        rw [List.take_succ_eq_append_getElem hlt, List.map_append, List.append_assoc]; rfl)
      have hll : (b ++ (l.take kk).map (· % 256)).length ≤ 101000 := by
        rw [List.length_append, List.length_map, List.length_take]; omega
      generalize l[kk] = x at *
      generalize b ++ (l.take kk).map (· % 256) = L at *
      obtain ⟨A', c', rfl, hl', hC'⟩ := Kd.R_reads h3
      have q7 : wr.cell? ⟨g, 7, none⟩ = some (.slice A' L.length c') := (blk_cell h1 7).trans rfl
      have H1 := Aside0.mk h1
      have H2 := Aside0.mk h2
      have H3 := Aside0.mk h3
      have H4 := Aside0.mk h4
      clear h1 h2 h3 h4 hC' hBk
      go_wp2_with ((with_reducible refine gate_builtin (b := .append) (xs := #[.tmp 16, .tmp 19]) rfl ?_); at_builtin; refine Kd.R_append (Kd.int .u8) (w0 := w0) w0.heap.size rfl (.tmp 16) (.tmp 19) 30 5 (.int .u8 0) 1 rfl Try.underlying30 info_u8 rfl (by decide) (by omega) _ L (x % 256) [.int .u8 (x % 256)] (fun _ => True) (fun _ => False) rfl rfl rfl (fun _ hk => hk.elim) (fun _ _ => trivial) H3.out H4.out (below_size H4.out) (by omega) ?_; intro v1 w1 ho hb hgr hat; clear hat; obtain ⟨A1, c1, hv1⟩ := Kd.R_slice ho; rw [List.length_append, List.length_singleton] at hv1; subst hv1; have g1 := (hgr.block g (blk_lt H1.out) (Kd.R_ne H3.out H1.out (by decide))).trans H1.out; have f7 : w1.frozen? ⟨g, 7, none⟩ = false := blk_frozen g1 7; have q71 : w1.cell? ⟨g, 7, none⟩ = some (.slice A' L.length c') := (blk_cell g1 7).trans rfl; have HG1 := Aside0.mk g1; have HF1 := Aside0.mk (FT.trans (FT.grown (g := g) H3.out hgr) (FT.set w1 7 (.slice A1 (L.length + 1) c1))); have HI1 := Aside0.mk (IsWr.put (q := q) g1 H2.out ho hb); clear ho hb hgr g1)
      rw [HNX.out] at HI1
      go_roundg (l.length - (kk + 1))
      case measure => omega
      case rel => exact ⟨kk + 1, by omega, by omega, by go_num, HI1, ⟨HFk.out.trans HF1.out⟩⟩
    · have hltz : ¬ (kk : Int) < (l.length : Int) := by omega
      have hn := HIk.out
      rw [List.take_of_length_le (by omega)] at hn
      have HN := Aside0.mk hn
      clear hn
      go_wp2_with fail
      go_returns
      exact ⟨rfl, HN.out, HFk.out⟩
end

section
open Go.Shelf Go.RowKit Go.Proofs.YtngjaaldidmgjaaW.PrintWords Go.Proofs.YtngjaaldidmgjaaW.PrintLast Go.Proofs.YtngjaaldidmgjaaW.PrintMore
set_option linter.unusedVariables false
set_option linter.unusedSimpArgs false

/-- Numbers of eight bytes. -/
def longB (l : List Int) : List Int := (l.map (putBytes 8)).flatten
theorem put8_len (x : Int) : (putBytes 8 x).length = 8 := by unfold putBytes; rw [if_pos (by decide)]; rfl
theorem longB_len (l : List Int) : (longB l).length = 8 * l.length := by
  induction l with
  | nil => rfl
  | cons x v ih =>
    unfold longB at ih ⊢
    rw [List.map_cons, List.flatten_cons, List.length_append, ih, put8_len, List.length_cons]
    omega

set_option maxHeartbeats 4000000 in
set_option maxRecDepth 100000 in
theorem wLongs (w0 w : World) (g B : Nat) (q : C7) (b l : List Int) (c : Nat) (hI : IsWr w0 w g q b) (hB : w.heap[B]? = some (.cells (l.map (Value.int .u64)).toArray 24 (0, 0))) (hc : l.length ≤ c) (hl : l.length ≤ 1000) (hbl : b.length ≤ 100000) :
    Calls Try.prog 124 #[.pointer (some ⟨g, 0, none⟩), .slice (some ⟨B, 0, none⟩) l.length c] w fun e w' => e = .returned (.tuple #[]) ∧ IsWr w0 w' g q (b ++ longB l) ∧ FT g w w' := by
  have HI := Aside0.mk hI
  have HB := Aside0.mk hB
  have hgB : B ≠ g := by
    obtain ⟨v, h1, _⟩ := hI
    exact blk_ne hB h1 (by decide)
  have HBG := Aside0.mk hgB
  clear hI hB hgB
  go_enter Try.func124, Try.ntmps124
  go_wp2_with fail
  go_loopg [5, 8] l.length (fun gg _ s8 wr => ∃ kk : Nat, kk ≤ l.length ∧ l.length - kk ≤ gg ∧ s8 = .int .i64 kk ∧ Aside0 (IsWr w0 wr g q (b ++ longB (l.take kk))) ∧ Aside0 (FT g w wr))
  case atStart => exact ⟨0, by omega, by omega, rfl, ⟨by simpa [longB] using HI.out⟩, ⟨FT.refl _ _⟩⟩
  case round =>
    obtain ⟨kk, hkk, hg, rfl, HIk, HFk⟩ := hrel
    by_cases hlt : kk < l.length
    · have hltz : (kk : Int) < (l.length : Int) := by omega
      obtain ⟨v, h1, h2, h3, h4⟩ := HIk.out
      have hBk := HFk.out.2 B _ _ HB.out HBG.out (by decide)
      have qx : wr.cell? ⟨B, kk, none⟩ = some (.int .u64 l[kk]) := (blk_cell hBk kk).trans (by simp [hlt])
      have HNX := Aside0.mk (show (b ++ longB (l.take kk)) ++ putBytes 8 l[kk] = b ++ longB (l.take (kk + 1)) by
        rw [List.take_succ_eq_append_getElem hlt]; unfold longB; rw [List.map_append, List.flatten_append, List.append_assoc]; simp)
      have hll : (b ++ longB (l.take kk)).length ≤ 110000 := by
        rw [List.length_append, longB_len, List.length_take]; omega
      generalize l[kk] = x at *
      generalize b ++ longB (l.take kk) = L at *
      obtain ⟨A', c', rfl, hl', hC'⟩ := Kd.R_reads h3
      have q7 : wr.cell? ⟨g, 7, none⟩ = some (.slice A' L.length c') := (blk_cell h1 7).trans rfl
      have H1 := Aside0.mk h1
      have H2 := Aside0.mk h2
      have H3 := Aside0.mk h3
      have H4 := Aside0.mk h4
      have HCALL := Aside0.mk (P.field_Put.calls 20 A' c' L 8 x (L ++ putBytes 8 x) wr hC' hl' (put_is L 8 x 20 (by omega) (by omega)))
      clear h1 h2 h3 h4 hC' hBk
      go_wp2_with (go_at_call 57; refine HCALL.out.mono ?_; rintro e w1 ⟨v2, rfl, ho, hb⟩; obtain ⟨A1, c1, hv1⟩ := Kd.R_slice ho; rw [List.length_append] at hv1; subst hv1; have g1 := blk_below H1.out hb; have f7 : w1.frozen? ⟨g, 7, none⟩ = false := blk_frozen g1 7; have q71 : w1.cell? ⟨g, 7, none⟩ = some (.slice A' L.length c') := (blk_cell g1 7).trans rfl; have HG1 := Aside0.mk g1; have HI1 := Aside0.mk (IsWr.put (q := q) g1 H2.out (Kd.R_lower ho (below_size H4.out)) (below_step H4.out hb)); have HF1 := Aside0.mk (FT.trans (FT.below (g := g) hb) (FT.set w1 7 (.slice A1 (L.length + (putBytes 8 x).length) c1))); clear ho hb g1)
      rw [HNX.out] at HI1
      go_roundg (l.length - (kk + 1))
      case measure => omega
      case rel => exact ⟨kk + 1, by omega, by omega, by go_num, HI1, ⟨HFk.out.trans HF1.out⟩⟩
    · have hltz : ¬ (kk : Int) < (l.length : Int) := by omega
      have hn := HIk.out
      rw [List.take_of_length_le (by omega)] at hn
      have HN := Aside0.mk hn
      clear hn
      go_wp2_with fail
      go_returns
      exact ⟨rfl, HN.out, HFk.out⟩

set_option maxHeartbeats 4000000 in
set_option maxRecDepth 100000 in
theorem wVec (w0 w : World) (g : Nat) (q : C7) (b : List Int) (A : Option Addr) (v : List Int) (c : Nat) (hI : IsWr w0 w g q b) (hr : Kd.C (Kd.int .i32) w A v.length v) (hc : v.length ≤ c) (hv : right v = true) (hbl : b.length ≤ 100000) :
    Calls Try.prog 125 #[.pointer (some ⟨g, 0, none⟩), .slice A v.length c] w fun e w' => e = .returned (.tuple #[]) ∧ IsWr w0 w' g q (b ++ vecB v) ∧ FT g w w' := by
  have HI := Aside0.mk hI
  have hvl : (vecB v).length ≤ 20 := by
    have := (right_range hv).1
    unfold vecB
    rw [List.length_cons, vecT_len]
    omega
  have HCALL := Aside0.mk (codec_Vec.calls A c v (vecB v) 0 w hr hc (by unfold codec_Vec.f; rw [if_pos hv]))
  clear hr hc hI hv
  generalize vecB v = B at *
  go_enter Try.func125, Try.ntmps125
  go_wp2_with fail
  refine HCALL.out.mono ?_
  rintro e w1 ⟨v1, rfl, ho, hb⟩
  have HIk := Aside0.mk (HI.out.below hb)
  have HFk := Aside0.mk (FT.below (g := g) hb)
  obtain ⟨A2, c2, rfl, hl2, hC2⟩ := Kd.R_reads ho
  have HC2 := Aside0.mk hC2
  obtain ⟨v0, h1, h2, h3, h4⟩ := HIk.out
  obtain ⟨A', c', rfl, hl', hC'⟩ := Kd.R_reads h3
  have q7 : w1.cell? ⟨g, 7, none⟩ = some (.slice A' b.length c') := (blk_cell h1 7).trans rfl
  have H1 := Aside0.mk h1
  have H2 := Aside0.mk h2
  have H3 := Aside0.mk h3
  have H4 := Aside0.mk h4
  clear h1 h2 h3 h4 hC' ho hb hC2
  go_wp2_with ((with_reducible refine gate_builtin (b := .append) (xs := #[.tmp 15, .tmp 16]) rfl ?_); at_builtin; refine Kd.R_append_rows (Kd.int .u8) (w0 := w0) w0.heap.size rfl (.tmp 15) (.tmp 16) 30 5 (.int .u8 0) 1 rfl Try.underlying30 info_u8 rfl (by decide) (by omega) (.slice A' b.length c') b B _ _ _ (fun _ => True) (fun _ => False) rfl rfl H3.out HC2.out (fun _ _ h => h) (fun _ h => h.elim) (fun _ _ => trivial) H4.out (below_size H4.out) (by omega) ?_; intro v1 w2 ho hb hgr hat; clear hat; obtain ⟨A1, c1, hv1⟩ := Kd.R_slice ho; rw [List.length_append] at hv1; subst hv1; have g1 := (hgr.block g (blk_lt H1.out) (Kd.R_ne H3.out H1.out (by decide))).trans H1.out; have f7 : w2.frozen? ⟨g, 7, none⟩ = false := blk_frozen g1 7; have q71 : w2.cell? ⟨g, 7, none⟩ = some (.slice A' b.length c') := (blk_cell g1 7).trans rfl; have HG1 := Aside0.mk g1; have HF1 := Aside0.mk (FT.trans (FT.grown (g := g) H3.out hgr) (FT.set w2 7 (.slice A1 (b.length + B.length) c1))); have HI1 := Aside0.mk (IsWr.put (q := q) g1 H2.out ho hb); clear ho hb hgr g1)
  go_returns
  exact ⟨rfl, HI1.out, HFk.out.trans HF1.out⟩
end

section
open Go.Shelf Go.RowKit Go.Proofs.YtngjaaldidmgjaaW.PrintWords Go.Proofs.YtngjaaldidmgjaaW.PrintLast Go.Proofs.YtngjaaldidmgjaaW.PrintMore
set_option linter.unusedVariables false
set_option linter.unusedSimpArgs false

def rcC (a0 a1 a2 a3 a4 : Int) (A5 : Option Addr) (n5 c5 : Nat) (A6 : Option Addr) (n6 c6 : Nat) : C7 := ⟨.int .i64 a0, .int .u64 a1, .int .u64 a2, .int .i64 a3, .int .i64 a4, .slice A5 n5 c5, .slice A6 n6 c6⟩

theorem IsWr.alloc {w0 w : World} {g : Nat} {q : C7} {b : List Int} (h : IsWr w0 w g q b) (o : Obj) : IsWr w0 (w.alloc o) g q b := h.below (below_alloc (Below.refl _ _) o)
theorem IsWr.drewN {w0 w : World} {g : Nat} {q : C7} {b : List Int} (h : IsWr w0 w g q b) (m : Nat) : IsWr w0 (w.drewN m) g q b := h.below (pw_below_drewN (Below.refl _ _) m)
/-- A byte's laying, the number in a row just made. -/
theorem wByte1 (w0 w : World) (g : Nat) (q : C7) (b : List Int) (x : Int) (hI : IsWr w0 w g q b) (hbl : b.length ≤ 100000) :
    Calls Try.prog 95 #[.pointer (some ⟨g, 0, none⟩), .slice (some ⟨w.heap.size, 0, none⟩) 1 1] (w.alloc (.cells #[.int .i64 x] 3)) fun e w' => e = .returned (.tuple #[]) ∧ IsWr w0 w' g q (b ++ [x % 256]) ∧ FT g w w' :=
  (wBytes w0 _ g w.heap.size q b [x] 1 (hI.alloc _) (heap_alloc_new _ _) (Nat.le_refl 1) (by simp) hbl).mono (fun e w' h => ⟨h.1, h.2.1, FT.trans (FT.below (below_alloc (Below.refl _ _) _)) h.2.2⟩)
theorem wByte2 (w0 w : World) (g : Nat) (q : C7) (b : List Int) (x y : Int) (hI : IsWr w0 w g q b) (hbl : b.length ≤ 100000) :
    Calls Try.prog 95 #[.pointer (some ⟨g, 0, none⟩), .slice (some ⟨w.heap.size, 0, none⟩) 2 2] (w.alloc (.cells #[.int .i64 x, .int .i64 y] 3)) fun e w' => e = .returned (.tuple #[]) ∧ IsWr w0 w' g q (b ++ [x % 256, y % 256]) ∧ FT g w w' :=
  (wBytes w0 _ g w.heap.size q b [x, y] 2 (hI.alloc _) (heap_alloc_new _ _) (Nat.le_refl 2) (by simp) hbl).mono (fun e w' h => ⟨h.1, h.2.1, FT.trans (FT.below (below_alloc (Below.refl _ _) _)) h.2.2⟩)
theorem wLong1 (w0 w : World) (g : Nat) (q : C7) (b : List Int) (x : Int) (hI : IsWr w0 w g q b) (hbl : b.length ≤ 100000) :
    Calls Try.prog 124 #[.pointer (some ⟨g, 0, none⟩), .slice (some ⟨w.heap.size, 0, none⟩) 1 1] (w.alloc (.cells #[.int .u64 x] 24)) fun e w' => e = .returned (.tuple #[]) ∧ IsWr w0 w' g q (b ++ putBytes 8 x) ∧ FT g w w' :=
  (wLongs w0 _ g w.heap.size q b [x] 1 (hI.alloc _) (heap_alloc_new _ _) (Nat.le_refl 1) (by simp) hbl).mono (fun e w' h => ⟨h.1, by simpa [longB] using h.2.1, FT.trans (FT.below (below_alloc (Below.refl _ _) _)) h.2.2⟩)

section
variable (a0 a1 a2 a3 a4 : Int) (A5 : Option Addr) (n5 c5 : Nat) (A6 : Option Addr) (n6 c6 : Nat)
theorem IsWr.cells {w0 w : World} {g : Nat} {b : List Int} (h : IsWr w0 w g (rcC a0 a1 a2 a3 a4 A5 n5 c5 A6 n6 c6) b) :
    w.cell? ⟨g, 1, none⟩ = some (.int .u64 a1) ∧ w.cell? ⟨g, 2, none⟩ = some (.int .u64 a2) ∧ w.cell? ⟨g, 3, none⟩ = some (.int .i64 a3) ∧ w.cell? ⟨g, 4, none⟩ = some (.int .i64 a4) ∧ w.cell? ⟨g, 5, none⟩ = some (.slice A5 n5 c5) ∧ w.cell? ⟨g, 6, none⟩ = some (.slice A6 n6 c6) := by
  obtain ⟨v, h1, _⟩ := h
  exact ⟨(blk_cell h1 1).trans rfl, (blk_cell h1 2).trans rfl, (blk_cell h1 3).trans rfl, (blk_cell h1 4).trans rfl, (blk_cell h1 5).trans rfl, (blk_cell h1 6).trans rfl⟩

set_option maxHeartbeats 4000000 in
set_option maxRecDepth 100000 in
theorem wDrop (w0 w : World) (g : Nat) (b : List Int) (hI : IsWr w0 w g (rcC a0 a1 a2 a3 a4 A5 n5 c5 A6 n6 c6) b) (hbl : b.length ≤ 100000) :
    Calls Try.prog 98 #[.pointer (some ⟨g, 0, none⟩)] w fun e w' => e = .returned (.tuple #[]) ∧ IsWr w0 w' g (rcC a0 a1 a2 a3 a4 A5 n5 c5 A6 n6 c6) (b ++ [a3 % 256]) := by
  obtain ⟨q1, q2, q3, q4, q5, q6⟩ := hI.cells
  have HC := Aside0.mk (wByte1 w0 w g _ b a3 hI hbl)
  clear hI
  go_enter Try.func98, Try.ntmps98
  go_wp2_with fail
  refine HC.out.mono ?_
  rintro e w1 ⟨rfl, hi, hf⟩
  have HI := Aside0.mk hi
  clear hi hf
  go_wp2_with fail
  go_returns
  exact ⟨rfl, HI.out⟩

set_option maxHeartbeats 4000000 in
set_option maxRecDepth 100000 in
theorem wVacuum (w0 w : World) (g : Nat) (b : List Int) (hI : IsWr w0 w g (rcC a0 a1 a2 a3 a4 A5 n5 c5 A6 n6 c6) b) (hbl : b.length ≤ 100000) :
    Calls Try.prog 100 #[.pointer (some ⟨g, 0, none⟩)] w fun e w' => e = .returned (.tuple #[]) ∧ IsWr w0 w' g (rcC a0 a1 a2 a3 a4 A5 n5 c5 A6 n6 c6) (b ++ putBytes 8 a2) := by
  obtain ⟨q1, q2, q3, q4, q5, q6⟩ := hI.cells
  have HC := Aside0.mk (wLong1 w0 w g _ b a2 hI hbl)
  clear hI
  go_enter Try.func100, Try.ntmps100
  go_wp2_with fail
  refine HC.out.mono ?_
  rintro e w1 ⟨rfl, hi, hf⟩
  have HI := Aside0.mk hi
  clear hi hf
  go_wp2_with fail
  go_returns
  exact ⟨rfl, HI.out⟩

set_option maxHeartbeats 4000000 in
set_option maxRecDepth 100000 in
theorem wCreate (w0 w : World) (g : Nat) (b : List Int) (hI : IsWr w0 w g (rcC a0 a1 a2 a3 a4 A5 n5 c5 A6 n6 c6) b) (hbl : b.length ≤ 100000) :
    Calls Try.prog 97 #[.pointer (some ⟨g, 0, none⟩)] w fun e w' => e = .returned (.tuple #[]) ∧ IsWr w0 w' g (rcC a0 a1 a2 a3 a4 A5 n5 c5 A6 n6 c6) (b ++ [a3 % 256, a4 % 256]) := by
  obtain ⟨q1, q2, q3, q4, q5, q6⟩ := hI.cells
  have HC := Aside0.mk (fun m => wByte2 w0 (w.drewN m) g _ b a3 a4 (hI.drewN m) hbl)
  clear hI
  go_enter Try.func97, Try.ntmps97
  go_wp2_with fail
  go_region_with (first
    | (go_at_call 95; refine (HC.out _).mono ?_; rintro e w1 ⟨rfl, hi, hf⟩; have HI := Aside0.mk hi; clear hi hf))
  all_goals (go_wp2_with fail; go_returns; exact ⟨rfl, HI.out⟩)
end
end

section
open Go.Shelf Go.RowKit Go.Proofs.YtngjaaldidmgjaaW.PrintWords Go.Proofs.YtngjaaldidmgjaaW.PrintLast Go.Proofs.YtngjaaldidmgjaaW.PrintMore
set_option linter.unusedVariables false
set_option linter.unusedSimpArgs false

/-- Vectors' bytes. -/
def vecsB (l : List (List Int)) : List Int := (l.map vecB).flatten
theorem vecB_le {v : List Int} (h : right v = true) : (vecB v).length ≤ 17 := by
  have := (right_range h).1
  unfold vecB
  rw [List.length_cons, vecT_len]
  omega
theorem vecsB_le (l : List (List Int)) (h : ∀ v ∈ l, right v = true) : (vecsB l).length ≤ 17 * l.length := by
  induction l with
  | nil => exact Nat.le_refl _
  | cons v l ih =>
    have h1 := vecB_le (h v (List.mem_cons_self ..))
    have h2 := ih (fun u hu => h u (List.mem_cons_of_mem _ hu))
    unfold vecsB at h2 ⊢
    rw [List.map_cons, List.flatten_cons, List.length_append, List.length_cons]
    omega
theorem IsWr.base {w0 w : World} {g : Nat} {q : C7} {b : List Int} (h : IsWr w0 w g q b) : Below w0.heap.size w0 w := by
  obtain ⟨v, _, _, _, h4⟩ := h
  exact h4
section
variable (a0 a1 a2 a3 a4 : Int) (A5 : Option Addr) (n5 c5 : Nat) (A6 : Option Addr) (n6 c6 : Nat)
set_option maxHeartbeats 4000000 in
set_option maxRecDepth 100000 in
theorem wTrain (l : List (List Int)) (w0 w : World) (g : Nat) (b : List Int) (hI : IsWr w0 w g (rcC a0 a1 a2 a3 a4 A5 n5 c5 A6 l.length c6) b) (hr : Kd.C kV w0 A6 l.length l) (hv : ∀ v ∈ l, right v = true) (hll : l.length ≤ 100) (hbl : b.length ≤ 1000) :
    Calls Try.prog 99 #[.pointer (some ⟨g, 0, none⟩)] w fun e w' => e = .returned (.tuple #[]) ∧ IsWr w0 w' g (rcC a0 a1 a2 a3 a4 A5 n5 c5 A6 l.length c6) (b ++ [a3 % 256, (l.length : Int) % 256] ++ vecsB l) := by
  obtain ⟨q1, q2, q3, q4, q5, q6⟩ := hI.cells
  have HC := Aside0.mk (fun m => wByte2 w0 (w.drewN m) g _ b a3 (l.length : Int) (hI.drewN m) (by omega))
  have HR := Aside0.mk hr
  have HV := Aside0.mk hv
  clear hI hr hv
  go_enter Try.func99, Try.ntmps99
  go_wp2_with fail
  go_region_with (first
    | (go_at_call 95; refine (HC.out _).mono ?_; rintro e w1 ⟨rfl, hi, hf⟩; have HI := Aside0.mk hi; clear hi hf))
  all_goals
    clear HC
    have hbl' : (b ++ [a3 % 256, (l.length : Int) % 256]).length ≤ 1002 := by rw [List.length_append]; simpa using hbl
    obtain ⟨b1, hb1⟩ : ∃ b1, b1 = b ++ [a3 % 256, (l.length : Int) % 256] := ⟨_, rfl⟩
    rw [← hb1] at HI hbl'
    have HB1 := Aside0.mk hb1
    clear hb1
    clear q1 q2 q3 q4 q5 q6
    obtain ⟨q1, q2, q3, q4, q5, q6⟩ := HI.out.cells
    clear q1 q2 q3 q4 q5
    go_wp2_with fail
    go_loopg [3, 24] l.length (fun gg _ s24 wr => ∃ kk : Nat, kk ≤ l.length ∧ l.length - kk ≤ gg ∧ s24 = .int .i64 kk ∧ Aside0 (IsWr w0 wr g (rcC a0 a1 a2 a3 a4 A5 n5 c5 A6 l.length c6) (b1 ++ vecsB (l.take kk))))
    case atStart => exact ⟨0, by omega, by omega, rfl, ⟨by simpa [vecsB] using HI.out⟩⟩
    case round =>
      obtain ⟨kk, hkk, hg, rfl, HIk⟩ := hrel
      by_cases hlt : kk < l.length
      · have hltz : (kk : Int) < (l.length : Int) := by omega
        obtain ⟨ad, A', c', hA, p0, hl', hC'⟩ := row_at (Kd.C_below HR.out HIk.out.base) kk hlt
        subst hA
        have hrt : right (l.getD kk []) = true := by rw [getD_of_lt l kk [] hlt]; exact HV.out _ (List.getElem_mem hlt)
        have hb2 : (b1 ++ vecsB (l.take kk)).length ≤ 100000 := by
          have := vecsB_le (l.take kk) (fun v hv => HV.out v (List.mem_of_mem_take hv))
          rw [List.length_take] at this
          rw [List.length_append]
          omega
        have HNX := Aside0.mk (show b1 ++ vecsB (l.take kk) ++ vecB (l.getD kk []) = b1 ++ vecsB (l.take (kk + 1)) by
          rw [getD_of_lt l kk [] hlt, List.take_succ_eq_append_getElem hlt]; unfold vecsB; rw [List.map_append, List.flatten_append, List.append_assoc]; simp)
        have HCALL := Aside0.mk (wVec w0 _ g _ _ A' (l.getD kk []) c' HIk.out hC' hl' hrt hb2)
        clear hC' hrt hb2
        generalize l.getD kk [] = v at *
        go_wp2_with (go_at_call 125; refine HCALL.out.mono ?_; rintro e w2 ⟨rfl, hi, hf⟩; have HI2 := Aside0.mk hi; clear hi hf)
        rw [HNX.out] at HI2
        go_roundg (l.length - (kk + 1))
        case measure => omega
        case rel => exact ⟨kk + 1, by omega, by omega, by go_num, HI2⟩
      · have hltz : ¬ (kk : Int) < (l.length : Int) := by omega
        have hn := HIk.out
        rw [List.take_of_length_le (by omega)] at hn
        have HN := Aside0.mk hn
        clear hn
        go_wp2_with fail
        go_returns
        exact ⟨rfl, by have h := HN.out; rw [HB1.out] at h; simpa [List.append_assoc] using h⟩
end
end

section
open Go.Shelf Go.RowKit Go.Proofs.YtngjaaldidmgjaaW.PrintWords Go.Proofs.YtngjaaldidmgjaaW.PrintLast Go.Proofs.YtngjaaldidmgjaaW.PrintMore
set_option linter.unusedVariables false
set_option linter.unusedSimpArgs false

/-- A write's bytes. -/
def wrB (x : Wr) : List Int := [x.f0 % 256] ++ putBytes 8 x.f1 ++ (if x.f2 = true then [1] else [0] ++ vecB x.f3)
def wrsB (l : List Wr) : List Int := (l.map wrB).flatten
theorem wrB_le {x : Wr} (h : wrOk x = true) : (wrB x).length ≤ 27 := by
  unfold wrB wrOk at *
  rw [Bool.and_eq_true] at h
  rw [List.length_append, List.length_append, put8_len]
  cases hx : x.f2 with
  | true => simp
  | false =>
    rw [hx] at h
    have h2 := vecB_le (v := x.f3) (by simpa using h.2)
    simp only [Bool.false_eq_true, if_false, List.length_append, List.length_cons, List.length_nil]
    omega
theorem wrsB_le (l : List Wr) (h : ∀ v ∈ l, wrOk v = true) : (wrsB l).length ≤ 27 * l.length := by
  induction l with
  | nil => exact Nat.le_refl _
  | cons v l ih =>
    have h1 := wrB_le (h v (List.mem_cons_self ..))
    have h2 := ih (fun u hu => h u (List.mem_cons_of_mem _ hu))
    unfold wrsB at h2 ⊢
    rw [List.map_cons, List.flatten_cons, List.length_append, List.length_cons]
    omega
section
variable (a0 a1 a2 a3 a4 : Int) (A5 : Option Addr) (n5 c5 : Nat) (A6 : Option Addr) (n6 c6 : Nat)
set_option maxHeartbeats 4000000 in
set_option maxRecDepth 100000 in
theorem wCommit (l : List Wr) (w0 w : World) (g : Nat) (b : List Int) (hI : IsWr w0 w g (rcC a0 a1 a2 a3 a4 A5 l.length c5 A6 n6 c6) b) (hr : Kd.C kW w0 A5 l.length l) (hv : ∀ v ∈ l, wrOk v = true) (hll : l.length ≤ 100) (hbl : b.length ≤ 1000) :
    Calls Try.prog 96 #[.pointer (some ⟨g, 0, none⟩)] w fun e w' => e = .returned (.tuple #[]) ∧ IsWr w0 w' g (rcC a0 a1 a2 a3 a4 A5 l.length c5 A6 n6 c6) (b ++ putBytes 8 a1 ++ [(l.length : Int) % 256] ++ wrsB l) := by
  obtain ⟨q1, q2, q3, q4, q5, q6⟩ := hI.cells
  have HC := Aside0.mk (wLong1 w0 w g _ b a1 hI (by omega))
  have HR := Aside0.mk hr
  have HV := Aside0.mk hv
  clear hI hr hv q2 q3 q4 q6
  go_enter Try.func96, Try.ntmps96
  go_wp2_with fail
  refine HC.out.mono ?_
  rintro e w1 ⟨rfl, hi, hf⟩
  clear HC hf q1 q5
  have hb1 : (b ++ putBytes 8 a1).length ≤ 1008 := by rw [List.length_append, put8_len]; omega
  obtain ⟨q1, q2, q3, q4, q5, q6⟩ := hi.cells
  have HC := Aside0.mk (wByte1 w0 w1 g _ _ (l.length : Int) hi (by omega))
  clear q1 q2 q3 q4 q6 hi
  go_wp2_with fail
  refine HC.out.mono ?_
  rintro e w2 ⟨rfl, hi, hf⟩
  clear HC hf q5
  have hb2 : (b ++ putBytes 8 a1 ++ [(l.length : Int) % 256]).length ≤ 1009 := by rw [List.length_append]; simpa using hb1
  obtain ⟨q1, q2, q3, q4, q5, q6⟩ := hi.cells
  have HI := Aside0.mk hi
  clear q1 q2 q3 q4 q6 hi hb1
  obtain ⟨b1, hbb⟩ : ∃ b1, b1 = b ++ putBytes 8 a1 ++ [(l.length : Int) % 256] := ⟨_, rfl⟩
  rw [← hbb] at HI hb2
  have HB1 := Aside0.mk hbb
  clear hbb
  go_wp2_with fail
  go_loopg [3, 27] l.length (fun gg _ s27 wr => ∃ kk : Nat, kk ≤ l.length ∧ l.length - kk ≤ gg ∧ s27 = .int .i64 kk ∧ Aside0 (IsWr w0 wr g (rcC a0 a1 a2 a3 a4 A5 l.length c5 A6 n6 c6) (b1 ++ wrsB (l.take kk))))
  case atStart => exact ⟨0, by omega, by omega, rfl, ⟨by simpa [wrsB] using HI.out⟩⟩
  case round =>
    obtain ⟨kk, hkk, hg, rfl, HIk⟩ := hrel
    by_cases hlt : kk < l.length
    · have hltz : (kk : Int) < (l.length : Int) := by omega
      obtain ⟨ad, A4, c4, hA, p0, p1, p2, p3, hl4, hC4⟩ := P.at_T87 HR.out (kk : Int) (by omega) (by omega)
      subst hA
      replace p0 := (HIk.out.base.cell (World.block_lt_of_cell? w0 _ p0)).trans p0
      replace p1 := (HIk.out.base.cell (World.block_lt_of_cell? w0 _ p1)).trans p1
      replace p2 := (HIk.out.base.cell (World.block_lt_of_cell? w0 _ p2)).trans p2
      replace p3 := (HIk.out.base.cell (World.block_lt_of_cell? w0 _ p3)).trans p3
      simp only [Int.toNat_natCast] at p0 p1 p2 p3
      have hxe : P.rd_T87 l (kk : Int) = l[kk] := wrAt_lt l kk hlt
      have hok : wrOk (P.rd_T87 l (kk : Int)) = true := by rw [hxe]; exact HV.out _ (List.getElem_mem hlt)
      have hL : (b1 ++ wrsB (l.take kk)).length ≤ 10000 := by
        have := wrsB_le (l.take kk) (fun v hv => HV.out v (List.mem_of_mem_take hv))
        rw [List.length_take] at this
        rw [List.length_append]
        omega
      have HNX := Aside0.mk (show b1 ++ wrsB (l.take kk) ++ wrB (P.rd_T87 l (kk : Int)) = b1 ++ wrsB (l.take (kk + 1)) by
        rw [hxe, List.take_succ_eq_append_getElem hlt]; unfold wrsB; rw [List.map_append, List.flatten_append, List.append_assoc]; simp)
      clear hxe
      generalize P.rd_T87 l (kk : Int) = x at *
      generalize hLL : b1 ++ wrsB (l.take kk) = L at *
      obtain ⟨f0, f1, f2, f3⟩ := x
      simp only at p0 p1 p2 p3 hl4 hC4
      obtain ⟨wb, hwb⟩ : ∃ wb, wb = wr.alloc (.cells #[.int .i64 f0, .int .u64 f1, .bool f2, .slice A4 f3.length c4] 87) := ⟨_, rfl⟩
      have HX := Aside0.mk (show wb.heap[wr.heap.size]? = some (.cells #[.int .i64 f0, .int .u64 f1, .bool f2, .slice A4 f3.length c4] 87 (0, 0)) by rw [hwb]; exact heap_alloc_new _ _)
      have HIb := Aside0.mk (show IsWr w0 wb g _ L by rw [hwb]; exact HIk.out.alloc _)
      have HXG := Aside0.mk (show wr.heap.size ≠ g by have := HIk.out.lt; omega)
      have HCR := Aside0.mk hC4
      have HW := Aside0.mk hwb
      clear hwb hC4
      go_upto_region 5 with (fail)
      rw [← HW.out]
      have x0 : wb.cell? ⟨wr.heap.size, 0, none⟩ = some (.int .i64 f0) := (blk_cell HX.out 0).trans rfl
      have HC1 := Aside0.mk (wByte1 w0 wb g _ L f0 HIb.out (by omega))
      clear p0 p1 p2 p3
      go_wp2_with fail
      refine HC1.out.mono ?_
      rintro e w3 ⟨rfl, hi, hf⟩
      have HX3 := Aside0.mk (hf.2 _ _ _ HX.out HXG.out (by decide))
      have hl3 : (L ++ [f0 % 256]).length ≤ 10001 := by rw [List.length_append]; simpa using hL
      have HC2 := Aside0.mk (wLong1 w0 w3 g _ _ f1 hi (by omega))
      clear hi hf x0 HC1 HX HIb
      have x1 : w3.cell? ⟨wr.heap.size, 1, none⟩ = some (.int .u64 f1) := (blk_cell HX3.out 1).trans rfl
      go_wp2_with fail
      refine HC2.out.mono ?_
      rintro e w4 ⟨rfl, hi, hf⟩
      have HX4 := Aside0.mk (hf.2 _ _ _ HX3.out HXG.out (by decide))
      have hl4' : (L ++ [f0 % 256] ++ putBytes 8 f1).length ≤ 10009 := by rw [List.length_append, put8_len]; omega
      have HI4 := Aside0.mk hi
      clear hi hf x1 HC2 HX3
      have x2 : w4.cell? ⟨wr.heap.size, 2, none⟩ = some (.bool f2) := (blk_cell HX4.out 2).trans rfl
      cases f2 with
      | true =>
        have HC3 := Aside0.mk (wByte1 w0 w4 g _ _ 1 HI4.out (by omega))
        go_wp2_with fail
        refine HC3.out.mono ?_
        rintro e w5 ⟨rfl, hi, hf⟩
        have HI5 := Aside0.mk hi
        rw [show L ++ [f0 % 256] ++ putBytes 8 f1 ++ [1 % 256] = b1 ++ wrsB (l.take (kk + 1)) by rw [← HNX.out]; unfold wrB; simp] at HI5
        clear hi hf HC3
        go_wp2_with fail
        go_roundg (l.length - (kk + 1))
        case measure => omega
        case rel => exact ⟨kk + 1, by omega, by omega, by go_num, HI5⟩
      | false =>
        have HC3 := Aside0.mk (wByte1 w0 w4 g _ _ 0 HI4.out (by omega))
        have hrt : right f3 = true := by
          unfold wrOk at hok
          simp only [Bool.false_eq_true, if_false, Bool.and_eq_true] at hok
          exact hok.2
        go_wp2_with fail
        refine HC3.out.mono ?_
        rintro e w5 ⟨rfl, hi, hf⟩
        have HX5 := Aside0.mk (hf.2 _ _ _ HX4.out HXG.out (by decide))
        have hl5 : (L ++ [f0 % 256] ++ putBytes 8 f1 ++ [0 % 256]).length ≤ 10010 := by rw [List.length_append]; simpa using hl4'
        have HC4 := Aside0.mk (wVec w0 w5 g _ _ A4 f3 c4 hi (Kd.C_below HCR.out hi.base) hl4 hrt (by omega))
        clear hi hf HC3 x2
        have x3 : w5.cell? ⟨wr.heap.size, 3, none⟩ = some (.slice A4 f3.length c4) := (blk_cell HX5.out 3).trans rfl
        go_wp2_with fail
        refine HC4.out.mono ?_
        rintro e w6 ⟨rfl, hi, hf⟩
        have HI5 := Aside0.mk hi
        rw [show L ++ [f0 % 256] ++ putBytes 8 f1 ++ [0 % 256] ++ vecB f3 = b1 ++ wrsB (l.take (kk + 1)) by rw [← HNX.out]; unfold wrB; simp] at HI5
        clear hi hf HC4
        go_wp2_with fail
        go_roundg (l.length - (kk + 1))
        case measure => omega
        case rel => exact ⟨kk + 1, by omega, by omega, by go_num, HI5⟩
    · have hltz : ¬ (kk : Int) < (l.length : Int) := by omega
      have hn := HIk.out
      rw [List.take_of_length_le (by omega)] at hn
      have HN := Aside0.mk hn
      clear hn
      go_wp2_with fail
      go_returns
      exact ⟨rfl, by have h := HN.out; rw [HB1.out] at h; simpa [List.append_assoc] using h⟩
end
end

section
open Go.Shelf Go.RowKit Go.Proofs.YtngjaaldidmgjaaW.PrintWords Go.Proofs.YtngjaaldidmgjaaW.PrintLast Go.Proofs.YtngjaaldidmgjaaW.PrintMore
set_option linter.unusedVariables false
set_option linter.unusedSimpArgs false

theorem map_look {P : Program} {t kt et : TypeId} (w : World) (b : Nat) (es : Array MapEntry) (n : Nat) (s : Int) (j : Nat) (v : Value) (ht : P.underlying t = some (.map kt et)) (hk : P.underlying kt = some (.int .i64)) (hb : w.heap[b]? = some (.map es n))
    (hf : Instr.findNow (.int .i64) (.int .i64 s) es.toList 0 = some (some (j, v))) :
    (Instr.lookup t (.map (some b)) (.int .i64 s) false).run P w = .ok v w := by
  have hc : ∀ e, (Instr.checkKey e 10000 kt (.int .i64 s)).run P w = .ok () w := fun e => MapKept.run_checkKey hk (by simp [MapKept.IsKey]) e 9999
  have hf := MapKept.run_findKey (P := P) (w := w) hk hf
  simp [Instr.lookup, run_underlying ht, MapKept.run_getObj_map hb, hc, hf, Result.andThen]
theorem map_none {P : Program} {t kt et : TypeId} (w : World) (b : Nat) (es : Array MapEntry) (n : Nat) (s : Int) (z : Value) (ht : P.underlying t = some (.map kt et)) (hk : P.underlying kt = some (.int .i64)) (hz : (zeroValue et).run P w = .ok z w) (hb : w.heap[b]? = some (.map es n))
    (hf : Instr.findNow (.int .i64) (.int .i64 s) es.toList 0 = some none) :
    (Instr.lookup t (.map (some b)) (.int .i64 s) false).run P w = .ok z w := by
  have hc : ∀ e, (Instr.checkKey e 10000 kt (.int .i64 s)).run P w = .ok () w := fun e => MapKept.run_checkKey hk (by simp [MapKept.IsKey]) e 9999
  have hf := MapKept.run_findKey (P := P) (w := w) hk hf
  simp [Instr.lookup, run_underlying ht, MapKept.run_getObj_map hb, hc, hf, hz, Result.andThen]
theorem map_put {P : Program} {t kt et : TypeId} (w0 w : World) (b : Nat) (es : Array MapEntry) (n : Nat) (s : Int) (v : Value) (ht : P.underlying t = some (.map kt et)) (hk : P.underlying kt = some (.int .i64)) (hb : w.heap[b]? = some (.map es n))
    (hf : Instr.findNow (.int .i64) (.int .i64 s) es.toList 0 = some none) (hw : Below w0.heap.size w0 w) (hm : w0.heap.size ≤ b) :
    ∃ w1, (Instr.mapUpdate t (.map (some b)) (.int .i64 s) v).run P w = .ok () w1 ∧ w1.heap[b]? = some (.map (es.push { key := .int .i64 s, val := v, born := n }) (n + 1)) ∧ Below w0.heap.size w0 w1 := by
  have hc : ∀ e, (Instr.checkKey e 10000 kt (.int .i64 s)).run P w = .ok () w := fun e => MapKept.run_checkKey hk (by simp [MapKept.IsKey]) e 9999
  have hf := MapKept.run_findKey (P := P) (w := w) hk hf
  refine ⟨{ w with heap := w.heap.setIfInBounds b (.map (es.push { key := .int .i64 s, val := v, born := n }) (n + 1)) }, ?_, ?_, ?_⟩
  · simp [Instr.mapUpdate, run_underlying ht, MapKept.run_getObj_map hb, hc, hf, MapKept.run_setObj_map _ hb, Result.andThen]
  · show (w.heap.setIfInBounds b _)[b]? = _
    rw [Array.getElem?_setIfInBounds_self_of_lt (blk_lt hb)]
  · refine ⟨hw.os, hw.tape, hw.output, ?_, fun k hk2 => ?_⟩
    · show w0.heap.size ≤ (w.heap.setIfInBounds b _).size
      rw [Array.size_setIfInBounds]; exact hw.size
    · refine Eq.trans ?_ (hw.block k hk2)
      show (w.heap.setIfInBounds b _)[k]? = _
      rw [Array.getElem?_setIfInBounds_ne (by omega)]
end

section
open Go.Shelf Go.RowKit Go.Proofs.YtngjaaldidmgjaaW.PrintWords Go.Proofs.YtngjaaldidmgjaaW.PrintLast Go.Proofs.YtngjaaldidmgjaaW.PrintMore
set_option linter.unusedVariables false
set_option linter.unusedSimpArgs false

/-- A record's bytes behind its kind. -/
def bodyB (a0 a1 a2 a3 a4 : Int) (l5 : List Wr) (l6 : List (List Int)) : List Int :=
  if a0 = 1 then putBytes 8 a1 ++ [(l5.length : Int) % 256] ++ wrsB l5
  else if a0 = 2 then [a3 % 256, a4 % 256]
  else if a0 = 3 then [a3 % 256]
  else if a0 = 4 then [a3 % 256, (l6.length : Int) % 256] ++ vecsB l6
  else putBytes 8 a2
def recB (a0 a1 a2 a3 a4 : Int) (l5 : List Wr) (l6 : List (List Int)) : List Int := (a0 % 256) :: bodyB a0 a1 a2 a3 a4 l5 l6

theorem wrsOk_all {l : List Wr} (h : wrsOk l = true) : (∀ v ∈ l, wrOk v = true) ∧ l.length ≤ 100 := by
  unfold wrsOk at h
  rw [Bool.and_eq_true, List.all_eq_true] at h
  refine ⟨fun v hv => ?_, by have := of_decide_eq_true h.1; omega⟩
  obtain ⟨i, hi, rfl⟩ := List.mem_iff_getElem.1 hv
  have h2 := h.2 i (by rw [List.mem_range']; exact ⟨i, hi, by omega⟩)
  unfold stepOk at h2
  rw [Bool.and_eq_true, wrAt_lt l i hi] at h2
  exact h2.1
theorem centOk_all {l : List (List Int)} (h : centOk l = true) : (∀ v ∈ l, right v = true) ∧ l.length ≤ 100 := by
  unfold centOk at h
  rw [Bool.and_eq_true, List.all_eq_true] at h
  refine ⟨fun v hv => ?_, by have := of_decide_eq_true h.1; omega⟩
  have h2 := h.2 v hv
  unfold okCe at h2
  rw [Bool.and_eq_true] at h2
  exact h2.1
theorem okKinds {a0 a1 a2 a3 a4 : Int} {l5 : List Wr} {l6 : List (List Int)} (h : recOk ⟨a0, a1, a2, a3, a4, l5, l6⟩ = true) :
    (a0 = 1 ∧ (∀ v ∈ l5, wrOk v = true) ∧ l5.length ≤ 100) ∨ (a0 = 2 ∧ True) ∨ (a0 = 3 ∧ True) ∨ (a0 = 4 ∧ (∀ v ∈ l6, right v = true) ∧ l6.length ≤ 100) ∨ (a0 = 5 ∧ True) := by
  unfold recOk at h
  rw [Bool.and_eq_true] at h
  have h := h.1
  simp only at h
  unfold okR at h
  by_cases k1 : a0 = 1
  · rw [if_pos k1, Bool.and_eq_true, Bool.and_eq_true] at h
    exact .inl ⟨k1, wrsOk_all h.2.2⟩
  rw [if_neg k1] at h
  by_cases k2 : a0 = 2
  · exact .inr (.inl ⟨k2, trivial⟩)
  rw [if_neg k2] at h
  by_cases k3 : a0 = 3
  · exact .inr (.inr (.inl ⟨k3, trivial⟩))
  rw [if_neg k3] at h
  by_cases k4 : a0 = 4
  · rw [if_pos k4, Bool.and_eq_true] at h
    exact .inr (.inr (.inr (.inl ⟨k4, centOk_all h.2⟩)))
  rw [if_neg k4] at h
  by_cases k5 : a0 = 5
  · exact .inr (.inr (.inr (.inr ⟨k5, trivial⟩)))
  rw [if_neg k5] at h
  cases h

set_option maxHeartbeats 4000000 in
set_option maxRecDepth 100000 in
theorem encNo (a0 a1 a2 a3 a4 : Int) (l5 : List Wr) (l6 : List (List Int)) (A5 : Option Addr) (c5 : Nat) (A6 : Option Addr) (c6 : Nat) (W : World) (h5 : Kd.C kW W A5 l5.length l5) (hc5 : l5.length ≤ c5) (h6 : Kd.C kV W A6 l6.length l6) (hok : recOk ⟨a0, a1, a2, a3, a4, l5, l6⟩ = false) :
    Calls Try.prog 51 #[.agg #[.int .i64 a0, .int .u64 a1, .int .u64 a2, .int .i64 a3, .int .i64 a4, .slice A5 l5.length c5, .slice A6 l6.length c6]] W fun e w' => e = .returned (.tuple #[.slice none 0 0, .int .i64 340]) ∧ Below W.heap.size W w' := by
  obtain ⟨w1, hw1⟩ : ∃ w1, w1 = W.alloc (.cells #[.int .i64 a0, .int .u64 a1, .int .u64 a2, .int .i64 a3, .int .i64 a4, .slice A5 l5.length c5, .slice A6 l6.length c6] 28) := ⟨_, rfl⟩
  have hB1 : Below W.heap.size W w1 := by rw [hw1]; exact (Below.refl _ _).alloc (Nat.le_refl _) _
  have HX := show w1.heap[W.heap.size]? = some (.cells #[.int .i64 a0, .int .u64 a1, .int .u64 a2, .int .i64 a3, .int .i64 a4, .slice A5 l5.length c5, .slice A6 l6.length c6] 28 (0, 0)) by rw [hw1]; exact heap_alloc_new W _
  have x0 : w1.cell? ⟨W.heap.size, 0, none⟩ = some (.int .i64 a0) := (blk_cell HX 0).trans rfl
  have x1 : w1.cell? ⟨W.heap.size, 1, none⟩ = some (.int .u64 a1) := (blk_cell HX 1).trans rfl
  have x2 : w1.cell? ⟨W.heap.size, 2, none⟩ = some (.int .u64 a2) := (blk_cell HX 2).trans rfl
  have x3 : w1.cell? ⟨W.heap.size, 3, none⟩ = some (.int .i64 a3) := (blk_cell HX 3).trans rfl
  have x4 : w1.cell? ⟨W.heap.size, 4, none⟩ = some (.int .i64 a4) := (blk_cell HX 4).trans rfl
  have x5 : w1.cell? ⟨W.heap.size, 5, none⟩ = some (.slice A5 l5.length c5) := (blk_cell HX 5).trans rfl
  have x6 : w1.cell? ⟨W.heap.size, 6, none⟩ = some (.slice A6 l6.length c6) := (blk_cell HX 6).trans rfl
  have HC := recCheck a0 a1 a2 a3 a4 l5 l6 A5 c5 A6 c6 w1 (Kd.C_below h5 hB1) hc5 (Kd.C_below h6 hB1)
  rw [hok] at HC
  have HCK := Aside0.mk HC
  have HW := Aside0.mk hw1
  have HB1 := Aside0.mk hB1
  clear hw1 hB1 HX HC h5 h6
  go_enter Try.func51, Try.ntmps51
  go_upto_region 1 with (fail)
  rw [← HW.out]
  go_wp2_with fail
  refine HCK.out.mono ?_
  rintro e w2 ⟨rfl, hd⟩
  have HB2 := Aside0.mk (below_step HB1.out hd)
  clear hd
  go_wp2_with fail
  go_returns
  exact ⟨rfl, HB2.out⟩

set_option maxHeartbeats 4000000 in
set_option maxRecDepth 100000 in
theorem encYes (a0 a1 a2 a3 a4 : Int) (l5 : List Wr) (l6 : List (List Int)) (A5 : Option Addr) (c5 : Nat) (A6 : Option Addr) (c6 : Nat) (W : World) (h5 : Kd.C kW W A5 l5.length l5) (hc5 : l5.length ≤ c5) (h6 : Kd.C kV W A6 l6.length l6) (hok : recOk ⟨a0, a1, a2, a3, a4, l5, l6⟩ = true) :
    Calls Try.prog 51 #[.agg #[.int .i64 a0, .int .u64 a1, .int .u64 a2, .int .i64 a3, .int .i64 a4, .slice A5 l5.length c5, .slice A6 l6.length c6]] W fun e w' => ∃ v, e = .returned (.tuple #[v, .int .i64 0]) ∧ Kd.R (Kd.int .u8) 5 w' W.heap.size (fun _ => True) v (recB a0 a1 a2 a3 a4 l5 l6) ∧ Below W.heap.size W w' := by
  obtain ⟨w1, hw1⟩ : ∃ w1, w1 = W.alloc (.cells #[.int .i64 a0, .int .u64 a1, .int .u64 a2, .int .i64 a3, .int .i64 a4, .slice A5 l5.length c5, .slice A6 l6.length c6] 28) := ⟨_, rfl⟩
  have hB1 : Below W.heap.size W w1 := by rw [hw1]; exact (Below.refl _ _).alloc (Nat.le_refl _) _
  have hX := show w1.heap[W.heap.size]? = some (.cells #[.int .i64 a0, .int .u64 a1, .int .u64 a2, .int .i64 a3, .int .i64 a4, .slice A5 l5.length c5, .slice A6 l6.length c6] 28 (0, 0)) by rw [hw1]; exact heap_alloc_new W _
  have x0 : w1.cell? ⟨W.heap.size, 0, none⟩ = some (.int .i64 a0) := (blk_cell hX 0).trans rfl
  have x1 : w1.cell? ⟨W.heap.size, 1, none⟩ = some (.int .u64 a1) := (blk_cell hX 1).trans rfl
  have x2 : w1.cell? ⟨W.heap.size, 2, none⟩ = some (.int .u64 a2) := (blk_cell hX 2).trans rfl
  have x3 : w1.cell? ⟨W.heap.size, 3, none⟩ = some (.int .i64 a3) := (blk_cell hX 3).trans rfl
  have x4 : w1.cell? ⟨W.heap.size, 4, none⟩ = some (.int .i64 a4) := (blk_cell hX 4).trans rfl
  have x5 : w1.cell? ⟨W.heap.size, 5, none⟩ = some (.slice A5 l5.length c5) := (blk_cell hX 5).trans rfl
  have x6 : w1.cell? ⟨W.heap.size, 6, none⟩ = some (.slice A6 l6.length c6) := (blk_cell hX 6).trans rfl
  have hC := recCheck a0 a1 a2 a3 a4 l5 l6 A5 c5 A6 c6 w1 (Kd.C_below h5 hB1) hc5 (Kd.C_below h6 hB1)
  rw [hok] at hC
  have HCK := Aside0.mk hC
  have HW := Aside0.mk hw1
  have HB1 := Aside0.mk hB1
  have HX := Aside0.mk hX
  have H5 := Aside0.mk h5
  have H6 := Aside0.mk h6
  have HOK := Aside0.mk hok
  clear hw1 hB1 hX hC h5 h6 hok
  go_enter Try.func51, Try.ntmps51
  go_upto_region 1 with (fail)
  rw [← HW.out]
  go_wp2_with fail
  refine HCK.out.mono ?_
  rintro e w2 ⟨rfl, hd⟩
  have hX2 := blk_below HX.out hd
  have hB2 := below_step HB1.out hd
  clear hd x0 x1 x2 x3 x4 x5 x6
  obtain ⟨w3, hw3⟩ : ∃ w3, w3 = w2.alloc (.cells #[.int .i64 a0, .int .u64 a1, .int .u64 a2, .int .i64 a3, .int .i64 a4, .slice A5 l5.length c5, .slice A6 l6.length c6, .slice none 0 0] 126) := ⟨_, rfl⟩
  have x0 : w2.cell? ⟨W.heap.size, 0, none⟩ = some (.int .i64 a0) := (blk_cell hX2 0).trans rfl
  have x1 : w2.cell? ⟨W.heap.size, 1, none⟩ = some (.int .u64 a1) := (blk_cell hX2 1).trans rfl
  have x2 : w2.cell? ⟨W.heap.size, 2, none⟩ = some (.int .u64 a2) := (blk_cell hX2 2).trans rfl
  have x3 : w2.cell? ⟨W.heap.size, 3, none⟩ = some (.int .i64 a3) := (blk_cell hX2 3).trans rfl
  have x4 : w2.cell? ⟨W.heap.size, 4, none⟩ = some (.int .i64 a4) := (blk_cell hX2 4).trans rfl
  have x5 : w2.cell? ⟨W.heap.size, 5, none⟩ = some (.slice A5 l5.length c5) := (blk_cell hX2 5).trans rfl
  have x6 : w2.cell? ⟨W.heap.size, 6, none⟩ = some (.slice A6 l6.length c6) := (blk_cell hX2 6).trans rfl
  have hX3 : w3.heap[W.heap.size]? = some (.cells #[.int .i64 a0, .int .u64 a1, .int .u64 a2, .int .i64 a3, .int .i64 a4, .slice A5 l5.length c5, .slice A6 l6.length c6] 28 (0, 0)) := by rw [hw3]; exact (Below.heap_alloc _ _ _ (blk_lt hX2)).trans hX2
  have hI3 : IsWr W w3 w2.heap.size (rcC a0 a1 a2 a3 a4 A5 l5.length c5 A6 l6.length c6) [] := ⟨.slice none 0 0, by rw [hw3]; exact heap_alloc_new _ _, hB2.size, Kd.R_nil _ _ _ _ _, by rw [hw3]; exact hB2.alloc hB2.size _⟩
  have y0 : w3.cell? ⟨W.heap.size, 0, none⟩ = some (.int .i64 a0) := (blk_cell hX3 0).trans rfl
  have HX3 := Aside0.mk hX3
  have HC1 := Aside0.mk (wByte1 W w3 _ _ [] a0 hI3 (by simp))
  have HNE := Aside0.mk (show W.heap.size ≠ w2.heap.size by have := blk_lt hX2; omega)
  have HW3 := Aside0.mk hw3
  clear hw3 hX3 hI3 hX2 hB2
  go_upto_region 5 with (fail)
  rw [← HW3.out]
  go_wp2_with fail
  refine HC1.out.mono ?_
  rintro e w4 ⟨rfl, hi, hf⟩
  have hX4 := hf.2 _ _ _ HX3.out HNE.out (by decide)
  have x0 : w4.cell? ⟨W.heap.size, 0, none⟩ = some (.int .i64 a0) := (blk_cell hX4 0).trans rfl
  obtain ⟨w5, hw5⟩ : ∃ w5, w5 = w4.alloc (.map #[] 0) := ⟨_, rfl⟩
  have hmm : (Instr.makeMap 114 none).run Try.prog w4 = .ok (.map (some w4.heap.size)) w5 := by rw [hw5]; exact run_makeMap _ _
  have m0 : w5.heap[w4.heap.size]? = some (.map #[] 0) := by rw [hw5]; exact heap_alloc_new _ _
  have B0 : Below w4.heap.size w4 w5 := by rw [hw5]; exact below_alloc (Below.refl _ _) _
  clear hw5
  obtain ⟨w6, s1, m1, B1⟩ := map_put (P := Try.prog) w4 w5 w4.heap.size _ _ 1 (.func (.func 96) #[.pointer (some ⟨w2.heap.size, 0, none⟩)] #[]) Try.underlying114 Try.underlying3 m0 (by first | rfl | simp [Instr.findNow, Instr.sameNow]) B0 (Nat.le_refl _)
  obtain ⟨w7, s2, m2, B2⟩ := map_put (P := Try.prog) w4 w6 w4.heap.size _ _ 2 (.func (.func 97) #[.pointer (some ⟨w2.heap.size, 0, none⟩)] #[]) Try.underlying114 Try.underlying3 m1 (by first | rfl | simp [Instr.findNow, Instr.sameNow]) B1 (Nat.le_refl _)
  obtain ⟨w8, s3, m3, B3⟩ := map_put (P := Try.prog) w4 w7 w4.heap.size _ _ 3 (.func (.func 98) #[.pointer (some ⟨w2.heap.size, 0, none⟩)] #[]) Try.underlying114 Try.underlying3 m2 (by first | rfl | simp [Instr.findNow, Instr.sameNow]) B2 (Nat.le_refl _)
  obtain ⟨w9, s4, m4, B4⟩ := map_put (P := Try.prog) w4 w8 w4.heap.size _ _ 4 (.func (.func 99) #[.pointer (some ⟨w2.heap.size, 0, none⟩)] #[]) Try.underlying114 Try.underlying3 m3 (by first | rfl | simp [Instr.findNow, Instr.sameNow]) B3 (Nat.le_refl _)
  obtain ⟨w10, s5, m5, B5⟩ := map_put (P := Try.prog) w4 w9 w4.heap.size _ _ 5 (.func (.func 100) #[.pointer (some ⟨w2.heap.size, 0, none⟩)] #[]) Try.underlying114 Try.underlying3 m4 (by first | rfl | simp [Instr.findNow, Instr.sameNow]) B4 (Nat.le_refl _)
  clear m0 m1 m2 m3 m4 B0 B1 B2 B3 B4
  have HI := Aside0.mk (hi.below B5)
  have hX10 := blk_below hX4 B5
  have HM := Aside0.mk m5
  clear hi hf hX4 B5 m5 x0
  have x0 : w10.cell? ⟨W.heap.size, 0, none⟩ = some (.int .i64 a0) := (blk_cell hX10 0).trans rfl
  clear hX10
  go_upto_region 7 with (fail)
  rcases okKinds HOK.out with ⟨rfl, hk⟩ | ⟨rfl, hk⟩ | ⟨rfl, hk⟩ | ⟨rfl, hk⟩ | ⟨rfl, hk⟩
  · have HK := Aside0.mk hk
    clear hk
    have hl := map_look (P := Try.prog) w10 w4.heap.size _ _ 1 0 (.func (.func 96) #[.pointer (some ⟨w2.heap.size, 0, none⟩)] #[]) Try.underlying114 Try.underlying3 HM.out (by first | rfl | simp [Instr.findNow, Instr.sameNow])
    have eg : ∀ args w, (callFunc 96 args).run Try.prog w = .ok (.enter 96 args) w := enters_of Try.func96 (by kernel_rfl) rfl
    have HCM := Aside0.mk (wCommit 1 a1 a2 a3 a4 A5 c5 A6 l6.length c6 l5 W w10 w2.heap.size _ HI.out H5.out HK.out.1 HK.out.2 (by simp))
    go_wp2_with (go_at_fn 96; refine HCM.out.mono ?_; rintro e w11 ⟨rfl, hi⟩; obtain ⟨v, g1, g2, g3, g4⟩ := hi; obtain ⟨Av, cv, rfl⟩ := Kd.R_slice g3; have q7 := (blk_cell g1 7).trans rfl; have HR := Aside0.mk g3; have HB := Aside0.mk g4; clear g1 g2 g3 g4)
    go_returns
    exact ⟨_, rfl, by have h := HR.out; simpa [recB, bodyB] using h, HB.out⟩
  · have HK := Aside0.mk hk
    clear hk
    have hl := map_look (P := Try.prog) w10 w4.heap.size _ _ 2 1 (.func (.func 97) #[.pointer (some ⟨w2.heap.size, 0, none⟩)] #[]) Try.underlying114 Try.underlying3 HM.out (by first | rfl | simp [Instr.findNow, Instr.sameNow])
    have eg : ∀ args w, (callFunc 97 args).run Try.prog w = .ok (.enter 97 args) w := enters_of Try.func97 (by kernel_rfl) rfl
    have HCM := Aside0.mk (wCreate 2 a1 a2 a3 a4 A5 l5.length c5 A6 l6.length c6 W w10 w2.heap.size _ HI.out (by simp))
    go_wp2_with (go_at_fn 97; refine HCM.out.mono ?_; rintro e w11 ⟨rfl, hi⟩; obtain ⟨v, g1, g2, g3, g4⟩ := hi; obtain ⟨Av, cv, rfl⟩ := Kd.R_slice g3; have q7 := (blk_cell g1 7).trans rfl; have HR := Aside0.mk g3; have HB := Aside0.mk g4; clear g1 g2 g3 g4)
    go_returns
    exact ⟨_, rfl, by have h := HR.out; simpa [recB, bodyB] using h, HB.out⟩
  · have HK := Aside0.mk hk
    clear hk
    have hl := map_look (P := Try.prog) w10 w4.heap.size _ _ 3 2 (.func (.func 98) #[.pointer (some ⟨w2.heap.size, 0, none⟩)] #[]) Try.underlying114 Try.underlying3 HM.out (by first | rfl | simp [Instr.findNow, Instr.sameNow])
    have eg : ∀ args w, (callFunc 98 args).run Try.prog w = .ok (.enter 98 args) w := enters_of Try.func98 (by kernel_rfl) rfl
    have HCM := Aside0.mk (wDrop 3 a1 a2 a3 a4 A5 l5.length c5 A6 l6.length c6 W w10 w2.heap.size _ HI.out (by simp))
    go_wp2_with (go_at_fn 98; refine HCM.out.mono ?_; rintro e w11 ⟨rfl, hi⟩; obtain ⟨v, g1, g2, g3, g4⟩ := hi; obtain ⟨Av, cv, rfl⟩ := Kd.R_slice g3; have q7 := (blk_cell g1 7).trans rfl; have HR := Aside0.mk g3; have HB := Aside0.mk g4; clear g1 g2 g3 g4)
    go_returns
    exact ⟨_, rfl, by have h := HR.out; simpa [recB, bodyB] using h, HB.out⟩
  · have HK := Aside0.mk hk
    clear hk
    have hl := map_look (P := Try.prog) w10 w4.heap.size _ _ 4 3 (.func (.func 99) #[.pointer (some ⟨w2.heap.size, 0, none⟩)] #[]) Try.underlying114 Try.underlying3 HM.out (by first | rfl | simp [Instr.findNow, Instr.sameNow])
    have eg : ∀ args w, (callFunc 99 args).run Try.prog w = .ok (.enter 99 args) w := enters_of Try.func99 (by kernel_rfl) rfl
    have HCM := Aside0.mk (wTrain 4 a1 a2 a3 a4 A5 l5.length c5 A6 c6 l6 W w10 w2.heap.size _ HI.out H6.out HK.out.1 HK.out.2 (by simp))
    go_wp2_with (go_at_fn 99; refine HCM.out.mono ?_; rintro e w11 ⟨rfl, hi⟩; obtain ⟨v, g1, g2, g3, g4⟩ := hi; obtain ⟨Av, cv, rfl⟩ := Kd.R_slice g3; have q7 := (blk_cell g1 7).trans rfl; have HR := Aside0.mk g3; have HB := Aside0.mk g4; clear g1 g2 g3 g4)
    go_returns
    exact ⟨_, rfl, by have h := HR.out; simpa [recB, bodyB] using h, HB.out⟩
  · have HK := Aside0.mk hk
    clear hk
    have hl := map_look (P := Try.prog) w10 w4.heap.size _ _ 5 4 (.func (.func 100) #[.pointer (some ⟨w2.heap.size, 0, none⟩)] #[]) Try.underlying114 Try.underlying3 HM.out (by first | rfl | simp [Instr.findNow, Instr.sameNow])
    have eg : ∀ args w, (callFunc 100 args).run Try.prog w = .ok (.enter 100 args) w := enters_of Try.func100 (by kernel_rfl) rfl
    have HCM := Aside0.mk (wVacuum 5 a1 a2 a3 a4 A5 l5.length c5 A6 l6.length c6 W w10 w2.heap.size _ HI.out (by simp))
    go_wp2_with (go_at_fn 100; refine HCM.out.mono ?_; rintro e w11 ⟨rfl, hi⟩; obtain ⟨v, g1, g2, g3, g4⟩ := hi; obtain ⟨Av, cv, rfl⟩ := Kd.R_slice g3; have q7 := (blk_cell g1 7).trans rfl; have HR := Aside0.mk g3; have HB := Aside0.mk g4; clear g1 g2 g3 g4)
    go_returns
    exact ⟨_, rfl, by have h := HR.out; simpa [recB, bodyB] using h, HB.out⟩
end

end Go.Proofs.Ytngjaaldidmgjaa.G
