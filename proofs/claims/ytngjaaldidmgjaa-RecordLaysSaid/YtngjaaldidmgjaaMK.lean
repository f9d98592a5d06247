/- The document's reader of a record: what it takes from bytes; contract of num. The document's reader of a record: contract of vec. The document's reader of a record against the program's: plain. Contract of quiverref24.Read. quiverlaw24.RecordReads answers true. Plain: what the documents' high and Vec answer. Contract of quiverref24.Bytes. -/
import Derived.Test.YtngjaaldidmgjaaMJ
import Derived.Deep.RegionHeld3
namespace Go.Proofs.Ytngjaaldidmgjaa.G

section
open Go.Shelf Go.RowKit Go.Proofs.YtngjaaldidmgjaaW.PrintWords Go.Proofs.YtngjaaldidmgjaaW.PrintLast Go.Proofs.YtngjaaldidmgjaaW.PrintMore
set_option linter.unusedVariables false
set_option linter.unusedSimpArgs false

theorem w3 {a b : Int} (ha : 0 ≤ a ∧ a ≤ 10000) (hb : 0 ≤ b ∧ b ≤ 10000) : wrap64 (wrap64 a + wrap64 b) = a + b := by
  rw [w64 (i := a) (by omega) (by omega), w64 (i := b) (by omega) (by omega), w64 (by omega) (by omega)]
/-- What the document takes. -/
def tv (bs : List Int) (pl : Nat) : List Int × Int × Int := tvg bs pl right
/-- What is left, and whether there were none. -/
abbrev US := List Int × Bool
/-- The reader's box. -/
def IsUr (w0 w : World) (u : Nat) (s : US) : Prop :=
  w0.heap.size ≤ u ∧ Below w0.heap.size w0 w ∧ (∀ x ∈ s.1, isB x) ∧ ∃ A c, s.1.length ≤ c ∧ Kd.C (Kd.int .u8) w0 A s.1.length s.1 ∧ w.heap[u]? = some (.cells #[.slice A s.1.length c, .bool s.2] 117 (0, 0))
theorem IsUr.below {w0 w w1 : World} {u : Nat} {s : US} (h : IsUr w0 w u s) (hb : Below w.heap.size w w1) : IsUr w0 w1 u s := by
  obtain ⟨h1, h2, h3, A, c, h4, h5, h6⟩ := h
  exact ⟨h1, below_step h2 hb, h3, A, c, h4, h5, blk_below h6 hb⟩
theorem IsUr.fr {w0 w w1 : World} {u : Nat} {s : US} {S : Nat → Prop} (h : IsUr w0 w u s) (hf : Fr S w w1) (hu : ¬ S u) (hS : ∀ k, S k → w0.heap.size ≤ k) : IsUr w0 w1 u s := by
  obtain ⟨h1, h2, h3, A, c, h4, h5, h6⟩ := h
  exact ⟨h1, below_step' h2 (Below.refl _ _) hf hS, h3, A, c, h4, h5, hf.blk h6 hu⟩
end

section
open Go.Shelf Go.RowKit Go.Proofs.YtngjaaldidmgjaaW.PrintWords Go.Proofs.YtngjaaldidmgjaaW.PrintLast Go.Proofs.YtngjaaldidmgjaaW.PrintMore
set_option linter.unusedVariables false
set_option linter.unusedSimpArgs false
end

section
open Go.Shelf Go.RowKit Go.Proofs.YtngjaaldidmgjaaW.PrintWords Go.Proofs.YtngjaaldidmgjaaW.PrintLast Go.Proofs.YtngjaaldidmgjaaW.PrintMore
set_option linter.unusedVariables false
set_option linter.unusedSimpArgs false
end

section
open Go.Shelf Go.RowKit Go.Proofs.YtngjaaldidmgjaaW.PrintWords Go.Proofs.YtngjaaldidmgjaaW.PrintLast Go.Proofs.YtngjaaldidmgjaaW.PrintMore
set_option linter.unusedVariables false
set_option linter.unusedSimpArgs false

/-- Where Read is: the result's box, the reader, the record's box. -/
def RX (W w : World) (u r : Nat) (s : US) (q : Array Value) : Prop :=
  w.heap[W.heap.size]? = some (.cells zcL 28 (0, 0)) ∧ IsUr W w u s ∧ w.heap[r]? = some (.cells q 28 (0, 0)) ∧ W.heap.size < u ∧ u < r
theorem RX.num {W w w1 : World} {u r : Nat} {s s1 : US} {q : Array Value} (h : RX W w u r s q) (hf : Fr (· = u) w w1) (hi : IsUr W w1 u s1) : RX W w1 u r s1 q :=
  ⟨hf.blk h.1 (fun e => by have := h.2.2.2.1; omega), hi, hf.blk h.2.2.1 (fun e => by have := h.2.2.2.2; omega), h.2.2.2⟩
theorem RX.below {W w w1 : World} {u r : Nat} {s : US} {q : Array Value} (h : RX W w u r s q) (hb : Below w.heap.size w w1) : RX W w1 u r s q :=
  ⟨blk_below h.1 hb, h.2.1.below hb, blk_below h.2.2.1 hb, h.2.2.2⟩
theorem RX.set {W w : World} {u r : Nat} {s : US} {q : Array Value} (h : RX W w u r s q) (i : Nat) (v : Value) (q' : Array Value) (e : q.setIfInBounds i v = q') : RX W (w.setCell ⟨r, i, none⟩ v) u r s q' := by
  have hf : Fr (· = r) w (w.setCell ⟨r, i, none⟩ v) := (Fr.refl (· = r) w).setCell (p := ⟨r, i, none⟩) (.inl rfl) _
  have h4 := h.2.2.2
  exact ⟨hf.blk h.1 (fun e => by omega), h.2.1.fr hf (by omega) (fun k hk => by omega), blk_put h.2.2.1 i v e, h4⟩
theorem RX.off {W w w1 : World} {u r B : Nat} {s : US} {q : Array Value} (h : RX W w u r s q) (hf : Fr (· = B) w w1) (hB : r < B) : RX W w1 u r s q := by
  have h4 := h.2.2.2
  exact ⟨hf.blk h.1 (fun e => by omega), h.2.1.fr hf (by omega) (fun k hk => by omega), hf.blk h.2.2.1 (fun e => by omega), h4⟩
theorem RX.low {W w w1 : World} {u r N : Nat} {s : US} {q : Array Value} (h : RX W w u r s q) (hb : Below N w w1) (hr : r < N) : RX W w1 u r s q := by
  obtain ⟨h1, ⟨i1, i2, i3, A, c, i4, i5, i6⟩, h3, h4, h5⟩ := h
  exact ⟨(hb.block _ (by omega)).trans h1, ⟨i1, i2.trans (Below.less hb (by omega)), i3, A, c, i4, i5, (hb.block _ (by omega)).trans i6⟩, (hb.block _ hr).trans h3, h4, h5⟩
theorem RX.base {W w : World} {u r : Nat} {s : US} {q : Array Value} (h : RX W w u r s q) : Below W.heap.size W w := h.2.1.2.1
theorem RX.by {W w : World} {u r : Nat} {s : US} {q : Array Value} (h : RX W w u r s q) : ∀ x ∈ s.1, isB x := h.2.1.2.2.1
/-- The reader told that it is bad. -/
theorem RX.bad {W w : World} {u r : Nat} {s : US} {q : Array Value} (h : RX W w u r s q) : RX W (w.setCell ⟨u, 1, none⟩ (.bool true)) u r (s.1, true) q := by
  have hf : Fr (· = u) w (w.setCell ⟨u, 1, none⟩ (.bool true)) := (Fr.refl (· = u) w).setCell (p := ⟨u, 1, none⟩) (.inl rfl) _
  refine h.num hf ?_
  obtain ⟨h1, h2, h3, A, c, h4, h5, h6⟩ := h.2.1
  exact ⟨h1, below_step' h2 (Below.refl _ _) hf (fun k hk => by omega), h3, A, c, h4, h5, blk_put h6 1 _ rfl⟩
end

section
open Go.Shelf Go.RowKit Go.Proofs.YtngjaaldidmgjaaW.PrintWords Go.Proofs.YtngjaaldidmgjaaW.PrintLast Go.Proofs.YtngjaaldidmgjaaW.PrintMore
set_option linter.unusedVariables false
set_option linter.unusedSimpArgs false

theorem sameR_self (x : Rc) : sameR x x = true := (sameR_iff x x).2 rfl
/-- Two records in boxes, read out of what has changed since. -/
def TwoR (w : World) (b B6 B8 : Nat) (z : Rc) (A5 : Option Addr) (c5 : Nat) (A6 : Option Addr) (c6 : Nat) (D5 : Option Addr) (d5 : Nat) (D6 : Option Addr) (d6 : Nat) : Prop :=
  (w.heap[B6]? = some (.cells (rcL z A5 c5 A6 c6) 28 (0, 0)) ∧ w.heap[B8]? = some (.cells (rcL z D5 d5 D6 d6) 28 (0, 0)) ∧ b ≤ B6 ∧ b ≤ B8) ∧
    (Kd.F kW w (fun k => b ≤ k) A5 z.f5.length z.f5 ∧ Kd.F kV w (fun k => b ≤ k) A6 z.f6.length z.f6) ∧ (Kd.F kW w (fun k => b ≤ k) D5 z.f5.length z.f5 ∧ Kd.F kV w (fun k => b ≤ k) D6 z.f6.length z.f6)
theorem TwoR.fr {w w1 : World} {b B6 B8 : Nat} {z : Rc} {A5 : Option Addr} {c5 : Nat} {A6 : Option Addr} {c6 : Nat} {D5 : Option Addr} {d5 : Nat} {D6 : Option Addr} {d6 : Nat} {S : Nat → Prop} (h : TwoR w b B6 B8 z A5 c5 A6 c6 D5 d5 D6 d6) (hf : Fr S w w1) (hS : ∀ k, S k → k < b) : TwoR w1 b B6 B8 z A5 c5 A6 c6 D5 d5 D6 d6 := by
  obtain ⟨⟨h1, h2, h3, h4⟩, ⟨h5, h6⟩, h7, h8⟩ := h
  have hn : ∀ k, b ≤ k → ¬ S k := fun k hk hs => by have := hS k hs; omega
  exact ⟨⟨hf.blk h1 (hn _ h3), hf.blk h2 (hn _ h4), h3, h4⟩, ⟨Kd.F_step h5 (fun k hk hlt => hf.block hlt (hn k hk)), Kd.F_step h6 (fun k hk hlt => hf.block hlt (hn k hk))⟩, Kd.F_step h7 (fun k hk hlt => hf.block hlt (hn k hk)), Kd.F_step h8 (fun k hk hlt => hf.block hlt (hn k hk))⟩
end

section
open Go.Shelf Go.RowKit Go.Proofs.YtngjaaldidmgjaaW.PrintWords Go.Proofs.YtngjaaldidmgjaaW.PrintLast Go.Proofs.YtngjaaldidmgjaaW.PrintMore
set_option linter.unusedVariables false
set_option linter.unusedSimpArgs false

theorem high24_l0 (s : Nat) (hs : s ≤ 8) (x : Int) : ∀ (i k : Nat) (acc : List Int), i ≤ s → i < k → acc.length + i ≤ 1000 → P.quiverref24_high.l0 k x acc ((i : Int) - 1) = some (acc ++ putFrom s x (s - i))
  | 0, k + 1, acc, hi, _, hl => by
    rw [P.quiverref24_high.l0, if_neg (by omega), Nat.sub_zero, putFrom_end, List.append_nil]
  | i + 1, k + 1, acc, hi, hk, hl => by
    have e0 : ((i + 1 : Nat) : Int) - 1 = (i : Int) := by omega
    have e1 : wrap64 (8 * (i : Int)) = ((8 * i : Nat) : Int) := by rw [w64 (by omega) (by omega)]; omega
    have e3 : shr .u64 x ((8 * i : Nat) : Int) % 256 = byteAt s x (s - (i + 1)) := by
      unfold shr byteAt
      rw [Int.toNat_natCast, Nat.min_eq_left (show 8 * i ≤ IntKind.u64.bits from by have : IntKind.u64.bits = 64 := rfl; omega), show s - 1 - (s - (i + 1)) = i by omega]
    rw [e0, P.quiverref24_high.l0, if_pos (by omega), e1, if_pos (by omega), if_pos (by omega), e3, w64 (by omega) (by omega),
      high24_l0 s hs x i k (acc ++ [byteAt s x (s - (i + 1))]) (by omega) (by omega) (by rw [List.length_append, List.length_singleton]; omega), List.append_assoc, List.singleton_append, show s - i = s - (i + 1) + 1 by omega, ← putFrom_step s x (s - (i + 1)) (by omega)]
theorem high24_is (s : Nat) (h1 : 1 ≤ s) (hs : s ≤ 8) (x : Int) (k : Nat) (hk : 9 ≤ k) : P.quiverref24_high.f k x (s : Int) = some (putBytes s x) := by
  unfold P.quiverref24_high.f putBytes
  rw [w64 (by omega) (by omega), high24_l0 s hs x s k [] (Nat.le_refl _) (by omega) (by simp; omega), List.nil_append, Nat.sub_self, if_pos (isSize_iff.2 (by omega)), Int.toNat_natCast]
theorem high_l0 (s : Nat) (hs : s ≤ 8) (x : Int) : ∀ (i k : Nat) (acc : List Int), i ≤ s → i < k → acc.length + i ≤ 1000 → P.quiverref07_high.l0 k x acc ((i : Int) - 1) = some (acc ++ putFrom s x (s - i))
  | 0, k + 1, acc, hi, _, hl => by
    rw [P.quiverref07_high.l0, if_neg (by omega), Nat.sub_zero, putFrom_end, List.append_nil]
  | i + 1, k + 1, acc, hi, hk, hl => by
    have e0 : ((i + 1 : Nat) : Int) - 1 = (i : Int) := by omega
    have e1 : wrap64 (8 * (i : Int)) = ((8 * i : Nat) : Int) := by rw [w64 (by omega) (by omega)]; omega
    have e3 : shr .u64 x ((8 * i : Nat) : Int) % 256 = byteAt s x (s - (i + 1)) := by
      unfold shr byteAt
      rw [Int.toNat_natCast, Nat.min_eq_left (show 8 * i ≤ IntKind.u64.bits from by have : IntKind.u64.bits = 64 := rfl; omega), show s - 1 - (s - (i + 1)) = i by omega]
    rw [e0, P.quiverref07_high.l0, if_pos (by omega), e1, if_pos (by omega), if_pos (by omega), e3, w64 (by omega) (by omega),
      high_l0 s hs x i k (acc ++ [byteAt s x (s - (i + 1))]) (by omega) (by omega) (by rw [List.length_append, List.length_singleton]; omega), List.append_assoc, List.singleton_append, show s - i = s - (i + 1) + 1 by omega, ← putFrom_step s x (s - (i + 1)) (by omega)]
theorem high_is (s : Nat) (h1 : 1 ≤ s) (hs : s ≤ 8) (x : Int) (k : Nat) (hk : 9 ≤ k) : P.quiverref07_high.f k x (s : Int) = some (putBytes s x) := by
  unfold P.quiverref07_high.f putBytes
  rw [w64 (by omega) (by omega), high_l0 s hs x s k [] (Nat.le_refl _) (by omega) (by simp; omega), List.nil_append, Nat.sub_self, if_pos (isSize_iff.2 (by omega)), Int.toNat_natCast]
theorem numB_high (x : Int) (k : Nat) (hk : 9 ≤ k) : P.quiverref07_high.f k (x % 4294967296) 4 = some (numB x) := by
  rw [show (4 : Int) = ((4 : Nat) : Int) from rfl, high_is 4 (by omega) (by omega) _ k hk]
  unfold numB
  rw [IntKind.wrap_u64]
  have h := put4_add (x % 4294967296) (x % 18446744073709551616 / 4294967296)
  rw [show x % 4294967296 + 4294967296 * (x % 18446744073709551616 / 4294967296) = x % 18446744073709551616 by omega] at h
  exact congrArg some h.symm
theorem rvec_l0 (v : List Int) (hv : v.length ≤ 1000) : ∀ (d i k : Nat) (acc : List Int), i + d = v.length → d + 12 ≤ k → acc.length + 4 * d ≤ 10000 → P.quiverref07_Vec.l0 k v acc (i : Int) = some (acc ++ vecT (v.drop i))
  | 0, i, k + 1, acc, hi, _, hl => by
    rw [P.quiverref07_Vec.l0, if_neg (by omega), List.drop_eq_nil_of_le (by omega)]
    simp [vecT]
  | d + 1, i, k + 1, acc, hi, hk, hl => by
    rw [P.quiverref07_Vec.l0, if_pos (by omega), if_pos (by omega), rd_nat, numB_high _ k (by omega), Option.bind_some, if_pos (by rw [numB_len]; omega), w64 (by omega) (by omega), show ((i : Int) + 1) = ((i + 1 : Nat) : Int) by omega,
      rvec_l0 v hv d (i + 1) k _ (by omega) (by omega) (by rw [List.length_append, numB_len]; omega), drop_at v i 0 (by omega), List.append_assoc]
    unfold vecT
    rw [List.map_cons, List.flatten_cons]
theorem rvec_is (v : List Int) (hv : v.length ≤ 1000) (k : Nat) (hk : v.length + 12 ≤ k) : P.quiverref07_Vec.f k v = some (vecB v) := by
  unfold P.quiverref07_Vec.f
  rw [show (0 : Int) = ((0 : Nat) : Int) from rfl, rvec_l0 v hv v.length 0 k _ (by omega) hk (by simp; omega), List.drop_zero, vecB]
  rfl
end

section
open Go.Shelf Go.RowKit Go.Proofs.YtngjaaldidmgjaaW.PrintWords Go.Proofs.YtngjaaldidmgjaaW.PrintLast Go.Proofs.YtngjaaldidmgjaaW.PrintMore
set_option linter.unusedVariables false
set_option linter.unusedSimpArgs false

theorem one_C {w : World} {g : Nat} {x : Int} (h : w.heap[g]? = some (.cells #[.int .u8 x] 5 (0, 0))) : Kd.C (Kd.int .u8) w (some ⟨g, 0, none⟩) 1 [x] := by
  refine ⟨rfl, by decide, fun _ => ⟨_, rfl, fun j p hj => ?_⟩⟩
  match j, hj with
  | 0, hj =>
    obtain rfl := Option.some.inj hj
    refine ⟨[.int .u8 x], rfl, rfl, fun i u hu => ?_⟩
    match i, hu with
    | 0, hu =>
      obtain rfl := Option.some.inj hu
      exact (blk_cell h 0).trans rfl
theorem own_less {w : World} {base : Nat} {e : Nat} {v : Value} {xs : List Int} (h : Kd.R (Kd.int .u8) e w base (fun _ => True) v xs) {k : Nat} (hk : w.heap.size ≤ k) : some k ≠ v.ownBlock := fun e => by
  have h1 := ((Kd.R_bound h).1 _ e.symm).2.2.1
  omega
theorem high8 (x : Int) (W : World) : Calls Try.prog 101 #[.int .u64 x, .int .i64 8] W fun e w' => ∃ v0_ : Value, e = .returned (v0_) ∧ Kd.R (Kd.int .u8) 5 w' W.heap.size (fun _ => True) v0_ (putBytes 8 x) ∧ Below W.heap.size W w' :=
  P.quiverref24_high.calls 9 x 8 (putBytes 8 x) W (high24_is 8 (by omega) (by omega) x 9 (by omega))

set_option maxHeartbeats 4000000 in
set_option maxRecDepth 100000 in
theorem refBytes (r : Rc) (A5 : Option Addr) (c5 : Nat) (A6 : Option Addr) (c6 : Nat) (W : World) (h5 : Kd.C kW W A5 r.f5.length r.f5) (h6 : Kd.C kV W A6 r.f6.length r.f6) (hok : recOk r = true) :
    Calls Try.prog 52 #[.agg (rcL r A5 c5 A6 c6)] W fun e w' => ∃ v, e = .returned v ∧ Kd.R (Kd.int .u8) 5 w' W.heap.size (fun _ => True) v (recBs r) ∧ Below W.heap.size W w' := by
  obtain ⟨a0, a1, a2, a3, a4, l5, l6⟩ := r
  simp only at h5 h6
  have HKINDS := Aside0.mk (okKinds hok)
  clear hok
  obtain ⟨w1, hw1⟩ : ∃ w1, w1 = W.alloc (.cells (rcL ⟨a0, a1, a2, a3, a4, l5, l6⟩ A5 c5 A6 c6) 28) := ⟨_, rfl⟩
  have hB1 : Below W.heap.size W w1 := by rw [hw1]; exact below_alloc (Below.refl _ _) _
  have HX1 := Aside0.mk (show w1.heap[W.heap.size]? = some (.cells (rcL ⟨a0, a1, a2, a3, a4, l5, l6⟩ A5 c5 A6 c6) 28 (0, 0)) by rw [hw1]; exact heap_alloc_new W _)
  have HC5 := Aside0.mk (Kd.C_below h5 hB1)
  have HC6 := Aside0.mk (Kd.C_below h6 hB1)
  have hm5 := Kd.C_max h5
  have hm6 := Kd.C_max h6
  have HB1 := Aside0.mk hB1
  have HW1 := Aside0.mk hw1
  have HRB := Aside0.mk (show recBs ⟨a0, a1, a2, a3, a4, l5, l6⟩ = recB a0 a1 a2 a3 a4 l5 l6 from rfl)
  rw [HRB.out]
  obtain ⟨b0, hb0⟩ : ∃ b0, b0 = [a0 % 256] := ⟨_, rfl⟩
  have hb0l : b0.length ≤ 1 := by rw [hb0]; exact Nat.le_refl 1
  have HB0 := Aside0.mk hb0
  have q0 : w1.cell? ⟨W.heap.size, 0, none⟩ = some (.int .i64 a0) := (blk_cell HX1.out 0).trans rfl
  clear hw1 hB1 h5 h6 hb0 HRB
  go_enter Try.func52, Try.ntmps52
  go_upto_region 1 with (fail)
  rw [HW1.out.symm]
  go_upto_region 4 with (first | ((with_reducible refine gate_dst (N := 11) rfl ?_); refine Kd.R_lit (Kd.int .u8) (w0 := w1) w1.heap.size 5 ?hg (N := 11) ?hd (xs := ([a0 % 256] : List Int)) (inner := [.int .u8 (a0 % 256)]) (ok := fun _ => True) (okp := fun _ => True) ?hr ?hp (fun _ hk => hk) trivial (Below.refl _ _) (Nat.le_refl _) (by simp) ?_; (case hd => rfl); (case hg => rfl); (case hr => first | (go_simp; done) | (go_simp; rfl)); (case hp => exact (Reps.one (show Kd.M (Kd.int .u8) _ _ _ (a0 % 256) [.int .u8 (a0 % 256)] from rfl) (Reps.none _ _))); intro v3 w2 ho hb hg hnew; clear hg hnew; rw [← HB0.out] at ho; have HO2 := Aside0.mk ho; have HB2 := Aside0.mk hb; have q0b : w2.cell? ⟨W.heap.size, 0, none⟩ = some (.int .i64 a0) := ((blk_cell (blk_below HX1.out hb) 0).trans rfl); clear ho hb))
  clear q0 q0b HW1
  rename_i K1 hK1 K0 hK0
  have tail : ∀ (a : Act) (wc : World) (u2 u4 u5 u6 u7 u8 u9 u10 u11 u12 u13 u14 u15 u16 u17 u18 u19 u20 u21 u22 u23 u24 u25 u26 u27 u28 u29 u30 u31 u32 u33 u34 u35 u36 u37 u38 u39 u40 u41 u42 u43 u44 u45 u46 u47 u48 u49 u50 u51 u52 u53 u54 u55 u56 u57 u58 u59 u60 u61 u62 u63 u64 u65 u66 u67 u68 u69 u70 u71 u72 u73 u74 u75 u76 u77 u78 u79 u80 u81 u82 u83 u84 u85 u86 u87 u88 u89 u90 u91 u92 u93 u94 u95 u96 u97 u98 u99 u100 u101 u102 u103 u104 u105 v3 : Value), a = ⟨#[.agg (rcL ⟨a0, a1, a2, a3, a4, l5, l6⟩ A5 c5 A6 c6), .pointer (some ⟨W.heap.size, 0, none⟩), u2, v3, u4, u5, u6, u7, u8, u9, u10, u11, u12, u13, u14, u15, u16, u17, u18, u19, u20, u21, u22, u23, u24, u25, u26, u27, u28, u29, u30, u31, u32, u33, u34, u35, u36, u37, u38, u39, u40, u41, u42, u43, u44, u45, u46, u47, u48, u49, u50, u51, u52, u53, u54, u55, u56, u57, u58, u59, u60, u61, u62, u63, u64, u65, u66, u67, u68, u69, u70, u71, u72, u73, u74, u75, u76, u77, u78, u79, u80, u81, u82, u83, u84, u85, u86, u87, u88, u89, u90, u91, u92, u93, u94, u95, u96, u97, u98, u99, u100, u101, u102, u103, u104, u105], []⟩ → Aside0 (Kd.R (Kd.int .u8) 5 wc w1.heap.size (fun _ => True) v3 (recB a0 a1 a2 a3 a4 l5 l6)) → Aside0 (Below w1.heap.size w1 wc) → K1 a wc := by
    intro a wc u2 u4 u5 u6 u7 u8 u9 u10 u11 u12 u13 u14 u15 u16 u17 u18 u19 u20 u21 u22 u23 u24 u25 u26 u27 u28 u29 u30 u31 u32 u33 u34 u35 u36 u37 u38 u39 u40 u41 u42 u43 u44 u45 u46 u47 u48 u49 u50 u51 u52 u53 u54 u55 u56 u57 u58 u59 u60 u61 u62 u63 u64 u65 u66 u67 u68 u69 u70 u71 u72 u73 u74 u75 u76 u77 u78 u79 u80 u81 u82 u83 u84 u85 u86 u87 u88 u89 u90 u91 u92 u93 u94 u95 u96 u97 u98 u99 u100 u101 u102 u103 u104 u105 v3 ha HO HB
    subst ha
    clear hK0
    refine hK1 _ _ ?_
    clear hK1 HKINDS
    go_wp2_with fail
    go_returns
    exact ⟨_, rfl, Kd.R_lower HO.out (below_size HB1.out), below_step HB1.out HB.out⟩
  clear hK1
  by_cases k2 : a0 = 2
  · subst k2
    have q3 : w2.cell? ⟨W.heap.size, 3, none⟩ = some (.int .i64 a3) := ((blk_cell (blk_below HX1.out HB2.out) 3).trans rfl)
    have q4 : w2.cell? ⟨W.heap.size, 4, none⟩ = some (.int .i64 a4) := ((blk_cell (blk_below HX1.out HB2.out) 4).trans rfl)
    obtain ⟨l2, hl2⟩ : ∃ l2 : List Int, l2 = [a3 % 256, a4 % 256] := ⟨_, rfl⟩
    have hl2l : l2.length ≤ 2 := by rw [hl2]; exact Nat.le_refl 2
    have HL2 := Aside0.mk hl2
    clear hl2
    go_wp2_with (first
      | ((with_reducible refine gate_dst (N := 71) rfl ?_); refine Kd.R_lit (Kd.int .u8) (w0 := w2) w2.heap.size 5 ?hg (N := 71) ?hd (xs := ([a3 % 256, a4 % 256] : List Int)) (inner := [.int .u8 (a3 % 256), .int .u8 (a4 % 256)]) (ok := fun _ => True) (okp := fun _ => True) ?hr ?hp (fun _ hk => hk) trivial (Below.refl _ _) (Nat.le_refl _) (by simp) ?_; (case hd => rfl); (case hg => rfl); (case hr => first | (go_simp; done) | (go_simp; rfl)); (case hp => exact (Reps.one (show Kd.M (Kd.int .u8) _ _ _ (a3 % 256) [.int .u8 (a3 % 256)] from rfl) (Reps.one (show Kd.M (Kd.int .u8) _ _ _ (a4 % 256) [.int .u8 (a4 % 256)] from rfl) (Reps.none _ _)))); intro vl w4 ho hb hg hnew; clear hg hnew; rw [← HL2.out] at ho; obtain ⟨Al, cl, hvl, hcl, hCl⟩ := Kd.R_reads ho; subst hvl; have HCl := Aside0.mk hCl; have HO4 := Aside0.mk (Kd.R_below HO2.out hb); have HB4 := Aside0.mk (below_step HB2.out hb); clear ho hb hcl hCl)
      | ((with_reducible refine gate_builtin (b := .append) (xs := #[.tmp 64, .tmp 71]) rfl ?_); at_builtin; refine Kd.R_append_rows (Kd.int .u8) (w0 := w1) w1.heap.size rfl (.tmp 64) (.tmp 71) 30 5 (.int .u8 0) 1 rfl Try.underlying30 info_u8 rfl (by decide) (by omega) v3 b0 l2 _ _ _ (fun _ => True) (fun _ => False) rfl rfl HO4.out HCl.out (fun _ _ h => h) (fun _ h => h.elim) (fun _ _ => trivial) HB4.out (below_size HB4.out) (by (try simp only [List.length_append]); omega) ?_; intro v5 w5 ho hb hg hat; clear hg hat; have HO5 := Aside0.mk ho; have HB5 := Aside0.mk hb; clear ho hb))
    have HFIN := Aside0.mk (show b0 ++ l2 = recB _ a1 a2 a3 a4 l5 l6 by rw [HB0.out, HL2.out]; rfl)
    exact tail _ _ _ _ _ _ _ _ _ _ _ _ _ _ _ _ _ _ _ _ _ _ _ _ _ _ _ _ _ _ _ _ _ _ _ _ _ _ _ _ _ _ _ _ _ _ _ _ _ _ _ _ _ _ _ _ _ _ _ _ _ _ _ _ _ _ _ _ _ _ _ _ _ _ _ _ _ _ _ _ _ _ _ _ _ _ _ _ _ _ _ _ _ _ _ _ _ _ _ _ _ _ _ _ _ _ rfl ⟨by rw [← HFIN.out]; exact HO5.out⟩ HB5
  by_cases k3 : a0 = 3
  · subst k3
    have q3 : w2.cell? ⟨W.heap.size, 3, none⟩ = some (.int .i64 a3) := ((blk_cell (blk_below HX1.out HB2.out) 3).trans rfl)
    go_wp2_with ((with_reducible refine gate_builtin (b := .append) (xs := #[.tmp 75, .tmp 79]) rfl ?_); at_builtin; refine Kd.R_append (Kd.int .u8) (w0 := w1) w1.heap.size rfl (.tmp 75) (.tmp 79) 30 5 (.int .u8 0) 1 rfl Try.underlying30 info_u8 rfl (by decide) (by omega) v3 b0 (a3 % 256) [.int .u8 (a3 % 256)] (fun _ => True) (fun _ => False) rfl rfl rfl (fun _ hk => hk.elim) (fun _ _ => trivial) HO2.out HB2.out (below_size HB2.out) (by (try simp only [List.length_append]); omega) ?_; intro v5 w5 ho hb hg hat; clear hg hat; have HO5 := Aside0.mk ho; have HB5 := Aside0.mk hb; clear ho hb)
    have HFIN := Aside0.mk (show b0 ++ [a3 % 256] = recB _ a1 a2 a3 a4 l5 l6 by rw [HB0.out]; rfl)
    exact tail _ _ _ _ _ _ _ _ _ _ _ _ _ _ _ _ _ _ _ _ _ _ _ _ _ _ _ _ _ _ _ _ _ _ _ _ _ _ _ _ _ _ _ _ _ _ _ _ _ _ _ _ _ _ _ _ _ _ _ _ _ _ _ _ _ _ _ _ _ _ _ _ _ _ _ _ _ _ _ _ _ _ _ _ _ _ _ _ _ _ _ _ _ _ _ _ _ _ _ _ _ _ _ _ _ _ rfl ⟨by rw [← HFIN.out]; exact HO5.out⟩ HB5
  by_cases k1 : a0 = 1
  · subst k1
    obtain ⟨hv, hlv⟩ : (∀ v ∈ l5, wrOk v = true) ∧ l5.length ≤ 100 := by
      rcases HKINDS.out with h | h | h | h | h
      · exact h.2
      · exact absurd h.1 (by decide)
      · exact absurd h.1 (by decide)
      · exact absurd h.1 (by decide)
      · exact absurd h.1 (by decide)
    have HV := Aside0.mk hv
    have HLV := Aside0.mk hlv
    clear HKINDS hv hlv
    have HH := Aside0.mk (high8 a1)
    have HRBF := Aside0.mk (show b0 ++ putBytes 8 a1 ++ [(l5.length : Int) % 256] ++ wrsB l5 = recB 1 a1 a2 a3 a4 l5 l6 by rw [HB0.out]; simp [recB, bodyB])
    have hp8 : (putBytes 8 a1).length ≤ 8 := Nat.le_of_eq (put8_len a1)
    generalize putBytes 8 a1 = p8 at *
    have q1 : w2.cell? ⟨W.heap.size, 1, none⟩ = some (.int .u64 a1) := ((blk_cell (blk_below HX1.out HB2.out) 1).trans rfl)
    have q5 : w2.cell? ⟨W.heap.size, 5, none⟩ = some (.slice A5 l5.length c5) := ((blk_cell (blk_below HX1.out HB2.out) 5).trans rfl)
    go_upto_region 5 with (fail)
    refine start_ (n := 12) (S := fun w' => w'.cell? ⟨W.heap.size, 1, none⟩ = some (.int .u64 a1) ∧ w'.cell? ⟨W.heap.size, 5, none⟩ = some (.slice A5 l5.length c5)) (ds := []) #[false, false, false, false, false, false, false, false, false, false, false, false] (by kernel_rfl) rfl rfl ⟨(Gr.cell q1 ⟨w2.drew, below_drew1 (Below.refl _ _)⟩), (Gr.cell q5 ⟨w2.drew, below_drew1 (Below.refl _ _)⟩)⟩ (fun hHeld => ?_)
    obtain ⟨wz, hwz⟩ : ∃ wz, wz = w2.drew := ⟨_, rfl⟩
    rw [← hwz] at hHeld ⊢
    have HOz := Aside0.mk (show Kd.R (Kd.int .u8) 5 wz w1.heap.size (fun _ => True) v3 b0 by rw [hwz]; exact Kd.R_drew HO2.out)
    have HBz := Aside0.mk (show Below w1.heap.size w1 wz by rw [hwz]; exact below_drew1 HB2.out)
    clear hwz
    refine pure_ (i := 0) (N := some 21) (v := ?_) (a' := ?_) #[true, false, false, false, false, false, false, false, false, false, false, false] rfl rfl (by kernel_rfl) (fun _ _ _ h => h) (Or.inl ⟨by rfl, ?_⟩) ?_ ?_
    rotate_left
    · intro w'
      go_simp
      with_reducible rfl
    rotate_left
    · simp only [Act.put, List.setIfInBounds_toArray, List.set_cons_zero, List.set_cons_succ, i64_w, i32_w]
      rfl
    refine pure_ (i := 1) (N := some 22) (v := ?_) (a' := ?_) #[true, true, false, false, false, false, false, false, false, false, false, false] rfl rfl (by kernel_rfl) (fun _ _ _ h => h) (Or.inl ⟨by rfl, ?_⟩) ?_ ?_
    rotate_left
    · intro w'
      go_simp
      with_reducible rfl
    rotate_left
    · simp only [Act.put, List.setIfInBounds_toArray, List.set_cons_zero, List.set_cons_succ, i64_w, i32_w]
      rfl
    refine pure_ (i := 5) (N := some 26) (v := ?_) (a' := ?_) #[true, true, false, false, false, true, false, false, false, false, false, false] rfl rfl (by kernel_rfl) (fun _ _ _ h => h) (Or.inl ⟨by rfl, ?_⟩) ?_ ?_
    rotate_left
    · intro w'
      go_simp
      with_reducible rfl
    rotate_left
    · simp only [Act.put, List.setIfInBounds_toArray, List.set_cons_zero, List.set_cons_succ, i64_w, i32_w]
      rfl
    refine take_ (i := 2) (N := some 23) (v := ?_) (a' := ?_) #[true, true, true, false, false, true, false, false, false, false, false, false] rfl rfl (by kernel_rfl) (fun _ _ _ h => h) (Or.inl ⟨by rfl, ?_⟩) hHeld ?_ ?_
    rotate_left
    · rintro w' ⟨s0, s1⟩
      go_simp
      with_reducible rfl
    rotate_left
    · simp only [Act.put, List.setIfInBounds_toArray, List.set_cons_zero, List.set_cons_succ, i64_w, i32_w]
      rfl
    refine take_ (i := 6) (N := some 27) (v := ?_) (a' := ?_) #[true, true, true, false, false, true, true, false, false, false, false, false] rfl rfl (by kernel_rfl) (fun _ _ _ h => h) (Or.inl ⟨by rfl, ?_⟩) hHeld ?_ ?_
    rotate_left
    · rintro w' ⟨s0, s1⟩
      go_simp
      with_reducible rfl
    rotate_left
    · simp only [Act.put, List.setIfInBounds_toArray, List.set_cons_zero, List.set_cons_succ, i64_w, i32_w]
      rfl
    refine pure_ (i := 7) (N := some 28) (v := ?_) (a' := ?_) #[true, true, true, false, false, true, true, true, false, false, false, false] rfl rfl (by kernel_rfl) (fun _ _ _ h => h) (Or.inl ⟨by rfl, ?_⟩) ?_ ?_
    rotate_left
    · intro w'
      go_simp
      with_reducible rfl
    rotate_left
    · simp only [Act.put, List.setIfInBounds_toArray, List.set_cons_zero, List.set_cons_succ, i64_w, i32_w]
      rfl
    refine pure_ (i := 8) (N := some 29) (v := ?_) (a' := ?_) #[true, true, true, false, false, true, true, true, true, false, false, false] rfl rfl (by kernel_rfl) (fun _ _ _ h => h) (Or.inl ⟨by rfl, ?_⟩) ?_ ?_
    rotate_left
    · intro w'
      go_simp
      with_reducible rfl
    rotate_left
    · simp only [Act.put, List.setIfInBounds_toArray, List.set_cons_zero, List.set_cons_succ, i64_w, i32_w]
      rfl
    refine join_ (σ := Value × Value × Nat) 2 #[true, true, true, true, true, true, true, true, true, true, false, false] (fun s => [(24, s.1), (25, s.2.1), (30, .slice (some ⟨s.2.2, 0, none⟩) 1 1)]) (fun s w' => Aside0 (Kd.R (Kd.int .u8) 5 w' w1.heap.size (fun _ => True) s.2.1 (b0 ++ p8)) ∧ Aside0 (Below w1.heap.size w1 w') ∧ Aside0 (w'.heap[s.2.2]? = some (.cells #[.int .u8 ((l5.length : Int) % 256)] 5 (0, 0)))) ?_ ?_
    rotate_left
    · intro hCont
      refine two_ (i := 3) (j := 9) (Ni := some 24) (Nj := some 30) #[true, true, true, true, false, true, true, true, true, false, false, false] #[true, true, true, false, false, true, true, true, true, true, false, false] rfl rfl rfl rfl (by kernel_rfl) (by decide) (by decide) (fun K hK => ?_) (fun K hK => ?_)
      · skip
        refine goes_ Try.func101 (by kernel_rfl) rfl #[.int .u64 a1, .int .i64 8] (by rfl) rfl rfl (by simp only [List.map_toArray, List.map_cons, List.map_nil]; rfl) ?_
        with_reducible refine ((HH.out _)).mono ?_
        rintro e wa ⟨va, rfl, ho, hb⟩
        have HBa := Aside0.mk (below_step ((by repeat (first | exact HBz.out | apply below_alloc | apply below_drew1 | apply pw_below_drewN)) : Below w1.heap.size w1 _) hb)
        have HOa := Aside0.mk (Kd.R_below ((by repeat (first | exact HOz.out | apply Kd.R_drew | apply Kd.R_drewN | apply Kd.R_alloc)) : Kd.R (Kd.int .u8) 5 _ w1.heap.size (fun _ => True) v3 b0) hb)
        have HSa := Aside0.mk (show wz.heap.size ≤ wa.heap.size by have h := hb.size; first | exact h | (simp at h; omega))
        obtain ⟨Aa, ca, hva, hca, hCa⟩ := Kd.R_reads ho
        subst hva
        have HCa := Aside0.mk hCa
        clear ho hb hca hCa
        refine ⟨_, rfl, ?_⟩
        refine hK.out _ _ ⟨((blk_cell (blk_below HX1.out HBa.out) 1).trans rfl), ((blk_cell (blk_below HX1.out HBa.out) 5).trans rfl)⟩ (fun hHeld => ?_)
        clear hK K
        refine norm_ (a' := ?_) ?_ ?_
        rotate_left
        · show Act.put _ (some 24) _ = _
          simp only [Act.put, List.setIfInBounds_toArray, List.set_cons_zero, List.set_cons_succ, i64_w, i32_w]
          rfl
        refine two_ (i := 4) (j := 9) (Ni := some 25) (Nj := some 30) #[true, true, true, true, true, true, true, true, true, false, false, false] #[true, true, true, true, false, true, true, true, true, true, false, false] rfl rfl rfl rfl (by kernel_rfl) (by decide) (by decide) (fun K hK => ?_) (fun K hK => ?_)
        · skip
          refine Kd.R_append_rows_step (Kd.int .u8) (w0 := w1) w1.heap.size (by rfl) (.tmp 21) (.tmp 24) 30 5 (.int .u8 0) 1 rfl Try.underlying30 info_u8 rfl (by decide) (by omega) v3 b0 p8 _ _ _ (fun _ => True) (fun _ => False) rfl rfl HOa.out HCa.out (fun _ _ h => h) (fun _ h => h.elim) (fun _ _ => trivial) HBa.out (below_size HBa.out) (by (try simp only [List.length_append]); omega) ?_
          intro vb wb ho hb hg hat
          clear hat
          have HOb := Aside0.mk ho
          have HBb := Aside0.mk hb
          clear ho hb hg
          refine hK.out _ _ ⟨((blk_cell (blk_below HX1.out HBb.out) 1).trans rfl), ((blk_cell (blk_below HX1.out HBb.out) 5).trans rfl)⟩ (fun hHeld => ?_)
          clear hK K
          refine norm_ (a' := ?_) ?_ ?_
          rotate_left
          · show Act.put _ (some 25) _ = _
            simp only [Act.put, List.setIfInBounds_toArray, List.set_cons_zero, List.set_cons_succ, i64_w, i32_w]
            rfl
          refine one_ (i := 9) (N := some 30) #[true, true, true, true, true, true, true, true, true, true, false, false] rfl rfl (by kernel_rfl) (by decide) (fun K hK => ?_)
          refine value_ (w1 := ?_) (v := ?_) (by rfl) rfl ?_ ?_
          rotate_left 2
          · go_simp
            constructor
            · rfl
            · rfl
          refine hK.out _ _ ⟨((blk_cell (blk_below HX1.out (below_alloc HBb.out _)) 1).trans rfl), ((blk_cell (blk_below HX1.out (below_alloc HBb.out _)) 5).trans rfl)⟩ (fun hHeld => ?_)
          clear hK K
          refine norm_ (a' := ?_) ?_ ?_
          rotate_left
          · show Act.put _ (some 30) _ = _
            simp only [Act.put, List.setIfInBounds_toArray, List.set_cons_zero, List.set_cons_succ, i64_w, i32_w]
            rfl
          exact norm_ (by simp only [putAll, Act.put, List.setIfInBounds_toArray, List.set_cons_zero, List.set_cons_succ]) (hCont (.slice Aa p8.length ca, vb, wb.heap.size) _ ⟨⟨Kd.R_alloc HOb.out _⟩, ⟨below_alloc HBb.out _⟩, ⟨heap_alloc_new _ _⟩⟩)
        · skip
          refine value_ (w1 := ?_) (v := ?_) (by rfl) rfl ?_ ?_
          rotate_left 2
          · go_simp
            constructor
            · rfl
            · rfl
          refine hK.out _ _ ⟨((blk_cell (blk_below HX1.out (below_alloc HBa.out _)) 1).trans rfl), ((blk_cell (blk_below HX1.out (below_alloc HBa.out _)) 5).trans rfl)⟩ (fun hHeld => ?_)
          clear hK K
          refine norm_ (a' := ?_) ?_ ?_
          rotate_left
          · show Act.put _ (some 30) _ = _
            simp only [Act.put, List.setIfInBounds_toArray, List.set_cons_zero, List.set_cons_succ, i64_w, i32_w]
            rfl
          refine one_ (i := 4) (N := some 25) #[true, true, true, true, true, true, true, true, true, true, false, false] rfl rfl (by kernel_rfl) (by decide) (fun K hK => ?_)
          refine Kd.R_append_rows_step (Kd.int .u8) (w0 := w1) w1.heap.size (by rfl) (.tmp 21) (.tmp 24) 30 5 (.int .u8 0) 1 rfl Try.underlying30 info_u8 rfl (by decide) (by omega) v3 b0 p8 _ _ _ (fun _ => True) (fun _ => False) rfl rfl (Kd.R_alloc HOa.out _) (Kd.C_alloc HCa.out _) (fun _ _ h => h) (fun _ h => h.elim) (fun _ _ => trivial) (below_alloc HBa.out _) (below_size (below_alloc HBa.out _)) (by (try simp only [List.length_append]); omega) ?_
          intro vb wb ho hb hg hat
          clear hat
          have HOb := Aside0.mk ho
          have HBb := Aside0.mk hb
          have HGb := Aside0.mk (show wb.heap[wa.heap.size]? = some (.cells #[.int .u8 ((l5.length : Int) % 256)] 5 (0, 0)) from (hg.block _ (by simp) (own_less HOz.out HSa.out)).trans (heap_alloc_new _ _))
          clear ho hb hg
          refine hK.out _ _ ⟨((blk_cell (blk_below HX1.out HBb.out) 1).trans rfl), ((blk_cell (blk_below HX1.out HBb.out) 5).trans rfl)⟩ (fun hHeld => ?_)
          clear hK K
          refine norm_ (a' := ?_) ?_ ?_
          rotate_left
          · show Act.put _ (some 25) _ = _
            simp only [Act.put, List.setIfInBounds_toArray, List.set_cons_zero, List.set_cons_succ, i64_w, i32_w]
            rfl
          exact norm_ (by simp only [putAll, Act.put, List.setIfInBounds_toArray, List.set_cons_zero, List.set_cons_succ]) (hCont (.slice Aa p8.length ca, vb, wa.heap.size) _ ⟨HOb, HBb, HGb⟩)
      · skip
        refine value_ (w1 := ?_) (v := ?_) (by rfl) rfl ?_ ?_
        rotate_left 2
        · go_simp
          constructor
          · rfl
          · rfl
        refine hK.out _ _ ⟨((blk_cell (blk_below HX1.out (below_alloc HBz.out _)) 1).trans rfl), ((blk_cell (blk_below HX1.out (below_alloc HBz.out _)) 5).trans rfl)⟩ (fun hHeld => ?_)
        clear hK K
        refine norm_ (a' := ?_) ?_ ?_
        rotate_left
        · show Act.put _ (some 30) _ = _
          simp only [Act.put, List.setIfInBounds_toArray, List.set_cons_zero, List.set_cons_succ, i64_w, i32_w]
          rfl
        refine one_ (i := 3) (N := some 24) #[true, true, true, true, false, true, true, true, true, true, false, false] rfl rfl (by kernel_rfl) (by decide) (fun K hK => ?_)
        refine goes_ Try.func101 (by kernel_rfl) rfl #[.int .u64 a1, .int .i64 8] (by rfl) rfl rfl (by simp only [List.map_toArray, List.map_cons, List.map_nil]; rfl) ?_
        with_reducible refine ((HH.out _)).mono ?_
        rintro e wa ⟨va, rfl, ho, hb⟩
        have HBa := Aside0.mk (below_step ((by repeat (first | exact HBz.out | apply below_alloc | apply below_drew1 | apply pw_below_drewN)) : Below w1.heap.size w1 _) hb)
        have HOa := Aside0.mk (Kd.R_below ((by repeat (first | exact HOz.out | apply Kd.R_drew | apply Kd.R_drewN | apply Kd.R_alloc)) : Kd.R (Kd.int .u8) 5 _ w1.heap.size (fun _ => True) v3 b0) hb)
        have HSa := Aside0.mk (show wz.heap.size ≤ wa.heap.size by have h := hb.size; first | exact h | (simp at h; omega))
        obtain ⟨Aa, ca, hva, hca, hCa⟩ := Kd.R_reads ho
        subst hva
        have HCa := Aside0.mk hCa
        have HGa := Aside0.mk (show wa.heap[wz.heap.size]? = some (.cells #[.int .u8 ((l5.length : Int) % 256)] 5 (0, 0)) from blk_below (heap_alloc_new _ _) hb)
        clear ho hb hca hCa
        refine ⟨_, rfl, ?_⟩
        refine hK.out _ _ ⟨((blk_cell (blk_below HX1.out HBa.out) 1).trans rfl), ((blk_cell (blk_below HX1.out HBa.out) 5).trans rfl)⟩ (fun hHeld => ?_)
        clear hK K
        refine norm_ (a' := ?_) ?_ ?_
        rotate_left
        · show Act.put _ (some 24) _ = _
          simp only [Act.put, List.setIfInBounds_toArray, List.set_cons_zero, List.set_cons_succ, i64_w, i32_w]
          rfl
        refine one_ (i := 4) (N := some 25) #[true, true, true, true, true, true, true, true, true, true, false, false] rfl rfl (by kernel_rfl) (by decide) (fun K hK => ?_)
        refine Kd.R_append_rows_step (Kd.int .u8) (w0 := w1) w1.heap.size (by rfl) (.tmp 21) (.tmp 24) 30 5 (.int .u8 0) 1 rfl Try.underlying30 info_u8 rfl (by decide) (by omega) v3 b0 p8 _ _ _ (fun _ => True) (fun _ => False) rfl rfl HOa.out HCa.out (fun _ _ h => h) (fun _ h => h.elim) (fun _ _ => trivial) HBa.out (below_size HBa.out) (by (try simp only [List.length_append]); omega) ?_
        intro vb wb ho hb hg hat
        clear hat
        have HOb := Aside0.mk ho
        have HBb := Aside0.mk hb
        have HGb := Aside0.mk (show wb.heap[wz.heap.size]? = some (.cells #[.int .u8 ((l5.length : Int) % 256)] 5 (0, 0)) from (hg.block _ (blk_lt HGa.out) (own_less HOz.out (Nat.le_refl _))).trans HGa.out)
        clear ho hb hg
        refine hK.out _ _ ⟨((blk_cell (blk_below HX1.out HBb.out) 1).trans rfl), ((blk_cell (blk_below HX1.out HBb.out) 5).trans rfl)⟩ (fun hHeld => ?_)
        clear hK K
        refine norm_ (a' := ?_) ?_ ?_
        rotate_left
        · show Act.put _ (some 25) _ = _
          simp only [Act.put, List.setIfInBounds_toArray, List.set_cons_zero, List.set_cons_succ, i64_w, i32_w]
          rfl
        exact norm_ (by simp only [putAll, Act.put, List.setIfInBounds_toArray, List.set_cons_zero, List.set_cons_succ]) (hCont (.slice Aa p8.length ca, vb, wz.heap.size) _ ⟨HOb, HBb, HGb⟩)
    rintro ⟨v24, v25, g⟩ w4 ⟨HO4, HB4, HG4⟩
    have hHeld : w4.cell? ⟨W.heap.size, 1, none⟩ = some (.int .u64 a1) ∧ w4.cell? ⟨W.heap.size, 5, none⟩ = some (.slice A5 l5.length c5) := ⟨((blk_cell (blk_below HX1.out HB4.out) 1).trans rfl), ((blk_cell (blk_below HX1.out HB4.out) 5).trans rfl)⟩
    refine norm_ (a' := ?_) ?_ ?_
    rotate_left
    · simp only [putAll, Act.put, List.setIfInBounds_toArray, List.set_cons_zero, List.set_cons_succ]
      rfl
    refine one_ (i := 10) (N := some 31) #[true, true, true, true, true, true, true, true, true, true, true, false] rfl rfl (by kernel_rfl) (by decide) (fun K hK => ?_)
    refine Kd.R_append_rows_step (Kd.int .u8) (w0 := w1) w1.heap.size (by rfl) (.tmp 25) (.tmp 30) 30 5 (.int .u8 0) 1 rfl Try.underlying30 info_u8 rfl (by decide) (by omega) v25 (b0 ++ p8) [((l5.length : Int) % 256)] _ _ _ (fun _ => True) (fun _ => False) rfl rfl HO4.out (one_C HG4.out) (fun _ _ h => h) (fun _ h => h.elim) (fun _ _ => trivial) HB4.out (below_size HB4.out) (by (try simp only [List.length_append]); omega) ?_
    intro v5 w5 ho hb hg hat
    clear hg hat
    have HO5 := Aside0.mk ho
    have HB5 := Aside0.mk hb
    clear ho hb
    refine hK.out _ _ ⟨((blk_cell (blk_below HX1.out HB5.out) 1).trans rfl), ((blk_cell (blk_below HX1.out HB5.out) 5).trans rfl)⟩ (fun hHeld => ?_)
    clear hK K
    refine norm_ (a' := ?_) ?_ ?_
    rotate_left
    · show Act.put _ (some 31) _ = _
      simp only [Act.put, List.setIfInBounds_toArray, List.set_cons_zero, List.set_cons_succ, i64_w, i32_w]
      rfl
    refine pure_ (i := 11) (N := some 3) (v := ?_) (a' := ?_) #[true, true, true, true, true, true, true, true, true, true, true, true] rfl rfl (by kernel_rfl) (fun _ _ _ h => h) (Or.inl ⟨by rfl, ?_⟩) ?_ ?_
    rotate_left
    · intro w'
      go_simp
      with_reducible rfl
    rotate_left
    · simp only [Act.put, List.setIfInBounds_toArray, List.set_cons_zero, List.set_cons_succ, i64_w, i32_w]
      rfl
    refine done_ (by kernel_rfl) ?_
    obtain ⟨b1, hb1⟩ : ∃ b1, b1 = b0 ++ p8 ++ [((l5.length : Int) % 256)] := ⟨_, rfl⟩
    have hb1l : b1.length ≤ 10 := by rw [hb1, List.length_append, List.length_append]; simp only [List.length_cons, List.length_nil]; omega
    rw [← hb1] at HRBF HO5
    clear hb1 q1 q5
    have q5 : w5.cell? ⟨W.heap.size, 5, none⟩ = some (.slice A5 l5.length c5) := ((blk_cell (blk_below HX1.out HB5.out) 5).trans rfl)
    go_wp2_with fail
    go_loopg [3, 5, 35] l5.length (fun gg v3 _ s35 wr => ∃ kk : Nat, kk ≤ l5.length ∧ l5.length - kk ≤ gg ∧ s35 = .int .i64 kk ∧ Aside0 (Kd.R (Kd.int .u8) 5 wr w1.heap.size (fun _ => True) v3 (b1 ++ wrsB (l5.take kk))) ∧ Aside0 (Below w1.heap.size w1 wr))
    case atStart => exact ⟨0, by omega, by omega, rfl, ⟨by simpa [wrsB] using HO5.out⟩, HB5⟩
    case round =>
      obtain ⟨kk, hkk, hg, rfl, HOk, HBk⟩ := hrel
      obtain ⟨wo, rfl⟩ : ∃ wo, wo = wr := ⟨_, rfl⟩
      by_cases hlt : kk < l5.length
      · have hltz : (kk : Int) < (l5.length : Int) := by omega
        obtain ⟨ad, A4, c4, hA, p0, p1, p2, p3, hl4, hC4⟩ := P.at_T87 HC5.out (kk : Int) (by omega) (by omega)
        subst hA
        replace p0 := (HBk.out.cell (World.block_lt_of_cell? w1 _ p0)).trans p0
        replace p1 := (HBk.out.cell (World.block_lt_of_cell? w1 _ p1)).trans p1
        replace p2 := (HBk.out.cell (World.block_lt_of_cell? w1 _ p2)).trans p2
        replace p3 := (HBk.out.cell (World.block_lt_of_cell? w1 _ p3)).trans p3
        simp only [Int.toNat_natCast] at p0 p1 p2 p3
        have hxe : P.rd_T87 l5 (kk : Int) = l5[kk] := wrAt_lt l5 kk hlt
        have hok : wrOk (P.rd_T87 l5 (kk : Int)) = true := by rw [hxe]; exact HV.out _ (List.getElem_mem hlt)
        have hL : (b1 ++ wrsB (l5.take kk)).length ≤ 10000 := by
          have hlv := HLV.out
          have := wrsB_le (l5.take kk) (fun v hv => HV.out v (List.mem_of_mem_take hv))
          rw [List.length_take] at this
          rw [List.length_append]
          omega
        have HNX := Aside0.mk (show b1 ++ wrsB (l5.take kk) ++ wrB (P.rd_T87 l5 (kk : Int)) = b1 ++ wrsB (l5.take (kk + 1)) by
          rw [hxe, List.take_succ_eq_append_getElem hlt]; unfold wrsB; rw [List.map_append, List.flatten_append, List.append_assoc]; simp)
        clear hxe
        generalize P.rd_T87 l5 (kk : Int) = x at *
        generalize b1 ++ wrsB (l5.take kk) = L at *
        obtain ⟨f0, f1, f2, f3⟩ := x
        simp only at p0 p1 p2 p3 hl4 hC4
        obtain ⟨wb, hwb⟩ : ∃ wb, wb = wo.alloc (.cells #[.int .i64 f0, .int .u64 f1, .bool f2, .slice A4 f3.length c4] 87) := ⟨_, rfl⟩
        obtain ⟨B, hB⟩ : ∃ B, B = wo.heap.size := ⟨_, rfl⟩
        have hbo : Below wo.heap.size wo wb := by rw [hwb]; exact below_alloc (Below.refl _ _) _
        have HXb := Aside0.mk (show wb.heap[B]? = some (.cells #[.int .i64 f0, .int .u64 f1, .bool f2, .slice A4 f3.length c4] 87 (0, 0)) by rw [hwb, hB]; exact heap_alloc_new _ _)
        have HBb := Aside0.mk (below_step HBk.out hbo)
        have HOb := Aside0.mk (Kd.R_below HOk.out hbo)
        have HCW := Aside0.mk hC4
        have HHf := Aside0.mk (high8 f1)
        have HW := Aside0.mk hwb
        have HB' := Aside0.mk hB
        have hpf : (putBytes 8 f1).length ≤ 8 := Nat.le_of_eq (put8_len f1)
        unfold wrB at HNX
        simp only at HNX
        generalize putBytes 8 f1 = pf at *
        clear hwb hB hbo hC4
        go_upto_region 9 with (fail)
        rw [← HW.out, ← HB'.out]
        clear p0 p1 p2 p3 HW HB'
        have p0 : wb.cell? ⟨B, 0, none⟩ = some (.int .i64 f0) := (blk_cell HXb.out 0).trans rfl
        have p1 : wb.cell? ⟨B, 1, none⟩ = some (.int .u64 f1) := (blk_cell HXb.out 1).trans rfl
        refine start_ (n := 11) (S := fun w' => w'.cell? ⟨B, 0, none⟩ = some (.int .i64 f0) ∧ w'.cell? ⟨B, 1, none⟩ = some (.int .u64 f1)) (ds := []) #[false, false, false, false, false, false, false, false, false, false, false] (by kernel_rfl) rfl rfl ⟨(Gr.cell p0 ⟨wb.drew, below_drew1 (Below.refl _ _)⟩), (Gr.cell p1 ⟨wb.drew, below_drew1 (Below.refl _ _)⟩)⟩ (fun hHeld => ?_)
        obtain ⟨wz, hwz⟩ : ∃ wz, wz = wb.drew := ⟨_, rfl⟩
        rw [← hwz] at hHeld ⊢
        have HOz := Aside0.mk (show Kd.R (Kd.int .u8) 5 wz w1.heap.size (fun _ => True) u3 L by rw [hwz]; exact Kd.R_drew HOb.out)
        have HBz := Aside0.mk (show Below w1.heap.size w1 wz by rw [hwz]; exact below_drew1 HBb.out)
        have HXz := Aside0.mk (blk_below HXb.out (show Below wb.heap.size wb wz by rw [hwz]; exact below_drew1 (Below.refl _ _)))
        clear hwz
        refine pure_ (i := 0) (N := some 39) (v := ?_) (a' := ?_) #[true, false, false, false, false, false, false, false, false, false, false] rfl rfl (by kernel_rfl) (fun _ _ _ h => h) (Or.inl ⟨by rfl, ?_⟩) ?_ ?_
        rotate_left
        · intro w'
          go_simp
          with_reducible rfl
        rotate_left
        · simp only [Act.put, List.setIfInBounds_toArray, List.set_cons_zero, List.set_cons_succ, i64_w, i32_w]
          rfl
        refine pure_ (i := 1) (N := some 40) (v := ?_) (a' := ?_) #[true, true, false, false, false, false, false, false, false, false, false] rfl rfl (by kernel_rfl) (fun _ _ _ h => h) (Or.inl ⟨by rfl, ?_⟩) ?_ ?_
        rotate_left
        · intro w'
          go_simp
          with_reducible rfl
        rotate_left
        · simp only [Act.put, List.setIfInBounds_toArray, List.set_cons_zero, List.set_cons_succ, i64_w, i32_w]
          rfl
        refine pure_ (i := 6) (N := some 45) (v := ?_) (a' := ?_) #[true, true, false, false, false, false, true, false, false, false, false] rfl rfl (by kernel_rfl) (fun _ _ _ h => h) (Or.inl ⟨by rfl, ?_⟩) ?_ ?_
        rotate_left
        · intro w'
          go_simp
          with_reducible rfl
        rotate_left
        · simp only [Act.put, List.setIfInBounds_toArray, List.set_cons_zero, List.set_cons_succ, i64_w, i32_w]
          rfl
        refine take_ (i := 2) (N := some 41) (v := ?_) (a' := ?_) #[true, true, true, false, false, false, true, false, false, false, false] rfl rfl (by kernel_rfl) (fun _ _ _ h => h) (Or.inl ⟨by rfl, ?_⟩) hHeld ?_ ?_
        rotate_left
        · rintro w' ⟨s0, s1⟩
          go_simp
          with_reducible rfl
        rotate_left
        · simp only [Act.put, List.setIfInBounds_toArray, List.set_cons_zero, List.set_cons_succ, i64_w, i32_w]
          rfl
        refine pure_ (i := 3) (N := some 42) (v := ?_) (a' := ?_) #[true, true, true, true, false, false, true, false, false, false, false] rfl rfl (by kernel_rfl) (fun _ _ _ h => h) (Or.inl ⟨by rfl, ?_⟩) ?_ ?_
        rotate_left
        · intro w'
          go_simp
          with_reducible rfl
        rotate_left
        · simp only [Act.put, List.setIfInBounds_toArray, List.set_cons_zero, List.set_cons_succ, i64_w, i32_w]
          rfl
        refine take_ (i := 7) (N := some 46) (v := ?_) (a' := ?_) #[true, true, true, true, false, false, true, true, false, false, false] rfl rfl (by kernel_rfl) (fun _ _ _ h => h) (Or.inl ⟨by rfl, ?_⟩) hHeld ?_ ?_
        rotate_left
        · rintro w' ⟨s0, s1⟩
          go_simp
          with_reducible rfl
        rotate_left
        · simp only [Act.put, List.setIfInBounds_toArray, List.set_cons_zero, List.set_cons_succ, i64_w, i32_w]
          rfl
        refine one_ (i := 4) (N := some 43) #[true, true, true, true, true, false, true, true, false, false, false] rfl rfl (by kernel_rfl) (by decide) (fun K hK => ?_)
        refine value_ (w1 := ?_) (v := ?_) (by rfl) rfl ?_ ?_
        rotate_left 2
        · go_simp
          constructor
          · rfl
          · rfl
        refine hK.out _ _ ⟨((blk_cell (blk_below HXz.out (below_alloc (Below.refl _ _) _)) 0).trans rfl), ((blk_cell (blk_below HXz.out (below_alloc (Below.refl _ _) _)) 1).trans rfl)⟩ (fun hHeld => ?_)
        clear hK K
        refine norm_ (a' := ?_) ?_ ?_
        rotate_left
        · show Act.put _ (some 43) _ = _
          simp only [Act.put, List.setIfInBounds_toArray, List.set_cons_zero, List.set_cons_succ, i64_w, i32_w]
          rfl
        refine one_ (i := 5) (N := some 44) #[true, true, true, true, true, true, true, true, false, false, false] rfl rfl (by kernel_rfl) (by decide) (fun K hK => ?_)
        refine Kd.R_append_step (Kd.int .u8) (w0 := w1) w1.heap.size (by rfl) (.tmp 39) (.tmp 43) 30 5 (.int .u8 0) 1 rfl Try.underlying30 info_u8 rfl (by decide) (by omega) u3 L (f0 % 256) [.int .u8 (f0 % 256)] (fun _ => True) (fun _ => False) rfl rfl rfl (fun _ hk => hk.elim) (fun _ _ => trivial) HOz.out HBz.out (below_size HBz.out) (by (try simp only [List.length_append]); omega) ?_
        intro vc wc ho hb hg hat
        clear hat
        have HOc := Aside0.mk ho
        have HBc := Aside0.mk hb
        have HXc := Aside0.mk (show wc.heap[B]? = some (.cells #[.int .i64 f0, .int .u64 f1, .bool f2, .slice A4 f3.length c4] 87 (0, 0)) from (hg.block B (blk_lt HXz.out) (Kd.R_ne HOz.out HXz.out (by decide))).trans HXz.out)
        clear ho hb hg
        refine hK.out _ _ ⟨((blk_cell HXc.out 0).trans rfl), ((blk_cell HXc.out 1).trans rfl)⟩ (fun hHeld => ?_)
        clear hK K
        refine norm_ (a' := ?_) ?_ ?_
        rotate_left
        · show Act.put _ (some 44) _ = _
          simp only [Act.put, List.setIfInBounds_toArray, List.set_cons_zero, List.set_cons_succ, i64_w, i32_w]
          rfl
        refine one_ (i := 8) (N := some 47) #[true, true, true, true, true, true, true, true, true, false, false] rfl rfl (by kernel_rfl) (by decide) (fun K hK => ?_)
        refine goes_ Try.func101 (by kernel_rfl) rfl #[.int .u64 f1, .int .i64 8] (by rfl) rfl rfl (by simp only [List.map_toArray, List.map_cons, List.map_nil]; rfl) ?_
        with_reducible refine ((HHf.out _)).mono ?_
        rintro e wd ⟨vd, rfl, ho, hb⟩
        have HBd := Aside0.mk (below_step HBc.out hb)
        have HOd := Aside0.mk (Kd.R_below HOc.out hb)
        have HXd := Aside0.mk (blk_below HXc.out hb)
        obtain ⟨Ad, cd, hvd, hcd, hCd⟩ := Kd.R_reads ho
        subst hvd
        have HCd := Aside0.mk hCd
        clear ho hb hcd hCd
        refine ⟨_, rfl, ?_⟩
        refine hK.out _ _ ⟨((blk_cell HXd.out 0).trans rfl), ((blk_cell HXd.out 1).trans rfl)⟩ (fun hHeld => ?_)
        clear hK K
        refine norm_ (a' := ?_) ?_ ?_
        rotate_left
        · show Act.put _ (some 47) _ = _
          simp only [Act.put, List.setIfInBounds_toArray, List.set_cons_zero, List.set_cons_succ, i64_w, i32_w]
          rfl
        refine one_ (i := 9) (N := some 48) #[true, true, true, true, true, true, true, true, true, true, false] rfl rfl (by kernel_rfl) (by decide) (fun K hK => ?_)
        refine Kd.R_append_rows_step (Kd.int .u8) (w0 := w1) w1.heap.size (by rfl) (.tmp 44) (.tmp 47) 30 5 (.int .u8 0) 1 rfl Try.underlying30 info_u8 rfl (by decide) (by omega) vc (L ++ [f0 % 256]) pf _ _ _ (fun _ => True) (fun _ => False) rfl rfl HOd.out HCd.out (fun _ _ h => h) (fun _ h => h.elim) (fun _ _ => trivial) HBd.out (below_size HBd.out) (by simp only [List.length_append, List.length_cons, List.length_nil]; omega) ?_
        intro ve we ho hb hg hat
        clear hat
        have HOe := Aside0.mk ho
        have HBe := Aside0.mk hb
        have HXe := Aside0.mk (show we.heap[B]? = some (.cells #[.int .i64 f0, .int .u64 f1, .bool f2, .slice A4 f3.length c4] 87 (0, 0)) from (hg.block B (blk_lt HXd.out) (Kd.R_ne HOd.out HXd.out (by decide))).trans HXd.out)
        clear ho hb hg
        refine hK.out _ _ ⟨((blk_cell HXe.out 0).trans rfl), ((blk_cell HXe.out 1).trans rfl)⟩ (fun hHeld => ?_)
        clear hK K
        refine norm_ (a' := ?_) ?_ ?_
        rotate_left
        · show Act.put _ (some 48) _ = _
          simp only [Act.put, List.setIfInBounds_toArray, List.set_cons_zero, List.set_cons_succ, i64_w, i32_w]
          rfl
        refine pure_ (i := 10) (N := some 3) (v := ?_) (a' := ?_) #[true, true, true, true, true, true, true, true, true, true, true] rfl rfl (by kernel_rfl) (fun _ _ _ h => h) (Or.inl ⟨by rfl, ?_⟩) ?_ ?_
        rotate_left
        · intro w'
          go_simp
          with_reducible rfl
        rotate_left
        · simp only [Act.put, List.setIfInBounds_toArray, List.set_cons_zero, List.set_cons_succ, i64_w, i32_w]
          rfl
        refine done_ (by kernel_rfl) ?_
        have p2 : we.cell? ⟨B, 2, none⟩ = some (.bool f2) := (blk_cell HXe.out 2).trans rfl
        have hL2 : (L ++ [f0 % 256] ++ pf).length ≤ 10009 := by rw [List.length_append, List.length_append]; simp only [List.length_cons, List.length_nil]; omega
        have HNX2 := Aside0.mk (show L ++ [f0 % 256] ++ pf ++ (if f2 = true then [1] else [0] ++ vecB f3) = b1 ++ wrsB (l5.take (kk + 1)) by rw [← HNX.out]; simp)
        generalize L ++ [f0 % 256] ++ pf = M at *
        clear p0 p1
        cases f2 with
        | true =>
          rw [if_pos rfl] at HNX2
          go_wp2_with ((with_reducible refine gate_builtin (b := .append) (xs := #[.tmp 51, .tmp 52]) rfl ?_); at_builtin; refine Kd.R_append (Kd.int .u8) (w0 := w1) w1.heap.size rfl (.tmp 51) (.tmp 52) 30 5 (.int .u8 0) 1 rfl Try.underlying30 info_u8 rfl (by decide) (by omega) ve M 1 [.int .u8 1] (fun _ => True) (fun _ => False) rfl rfl rfl (fun _ hk => hk.elim) (fun _ _ => trivial) HOe.out HBe.out (below_size HBe.out) (by (try simp only [List.length_append]); omega) ?_; intro v8 w8 ho hb hg hat; clear hg hat; rw [HNX2.out] at ho; have HO8 := Aside0.mk ho; have HB8 := Aside0.mk hb; clear ho hb)
          go_roundg (l5.length - (kk + 1))
          case measure => omega
          case rel => exact ⟨kk + 1, by omega, by omega, by go_num, HO8, HB8⟩
        | false =>
          rw [if_neg (by decide)] at HNX2
          have hrt : right f3 = true := by unfold wrOk at hok; simp only at hok; rw [Bool.and_eq_true, if_neg (by decide)] at hok; exact hok.2
          have hr4 := (right_range hrt).1
          have hvl : (vecB f3).length ≤ 17 := vecB_le hrt
          have HVC := Aside0.mk (fun (W2 : World) (h : Kd.C (Kd.int .i32) W2 A4 f3.length f3) => P.quiverref07_Vec.calls (f3.length + 12) A4 c4 f3 (vecB f3) W2 h hl4 (rvec_is _ (by omega) _ (Nat.le_refl _)))
          generalize vecB f3 = vv at *
          clear hrt hr4 hok
          go_upto_region 12 with (fail)
          clear p2
          have p3 : we.cell? ⟨B, 3, none⟩ = some (.slice A4 f3.length c4) := (blk_cell HXe.out 3).trans rfl
          refine start_ (n := 8) (S := fun w' => w'.cell? ⟨B, 3, none⟩ = some (.slice A4 f3.length c4)) (ds := []) #[false, false, false, false, false, false, false, false] (by kernel_rfl) rfl rfl ((Gr.cell p3 ⟨we.drew, below_drew1 (Below.refl _ _)⟩)) (fun hHeld => ?_)
          obtain ⟨wz, hwz⟩ : ∃ wz, wz = we.drew := ⟨_, rfl⟩
          rw [← hwz] at hHeld ⊢
          have HOz := Aside0.mk (show Kd.R (Kd.int .u8) 5 wz w1.heap.size (fun _ => True) ve M by rw [hwz]; exact Kd.R_drew HOe.out)
          have HBz := Aside0.mk (show Below w1.heap.size w1 wz by rw [hwz]; exact below_drew1 HBe.out)
          have HXz := Aside0.mk (blk_below HXe.out (show Below we.heap.size we wz by rw [hwz]; exact below_drew1 (Below.refl _ _)))
          clear hwz
          refine pure_ (i := 0) (N := some 54) (v := ?_) (a' := ?_) #[true, false, false, false, false, false, false, false] rfl rfl (by kernel_rfl) (fun _ _ _ h => h) (Or.inl ⟨by rfl, ?_⟩) ?_ ?_
          rotate_left
          · intro w'
            go_simp
            with_reducible rfl
          rotate_left
          · simp only [Act.put, List.setIfInBounds_toArray, List.set_cons_zero, List.set_cons_succ, i64_w, i32_w]
            rfl
          refine pure_ (i := 3) (N := some 57) (v := ?_) (a' := ?_) #[true, false, false, true, false, false, false, false] rfl rfl (by kernel_rfl) (fun _ _ _ h => h) (Or.inl ⟨by rfl, ?_⟩) ?_ ?_
          rotate_left
          · intro w'
            go_simp
            with_reducible rfl
          rotate_left
          · simp only [Act.put, List.setIfInBounds_toArray, List.set_cons_zero, List.set_cons_succ, i64_w, i32_w]
            rfl
          refine take_ (i := 4) (N := some 58) (v := ?_) (a' := ?_) #[true, false, false, true, true, false, false, false] rfl rfl (by kernel_rfl) (fun _ _ _ h => h) (Or.inl ⟨by rfl, ?_⟩) hHeld ?_ ?_
          rotate_left
          · intro w' s0
            go_simp
            with_reducible rfl
          rotate_left
          · simp only [Act.put, List.setIfInBounds_toArray, List.set_cons_zero, List.set_cons_succ, i64_w, i32_w]
            rfl
          refine one_ (i := 1) (N := some 55) #[true, true, false, true, true, false, false, false] rfl rfl (by kernel_rfl) (by decide) (fun K hK => ?_)
          refine value_ (w1 := ?_) (v := ?_) (by rfl) rfl ?_ ?_
          rotate_left 2
          · go_simp
            constructor
            · rfl
            · rfl
          refine hK.out _ _ (((blk_cell (blk_below HXz.out (below_alloc (Below.refl _ _) _)) 3).trans rfl)) (fun hHeld => ?_)
          clear hK K
          refine norm_ (a' := ?_) ?_ ?_
          rotate_left
          · show Act.put _ (some 55) _ = _
            simp only [Act.put, List.setIfInBounds_toArray, List.set_cons_zero, List.set_cons_succ, i64_w, i32_w]
            rfl
          refine one_ (i := 2) (N := some 56) #[true, true, true, true, true, false, false, false] rfl rfl (by kernel_rfl) (by decide) (fun K hK => ?_)
          refine Kd.R_append_step (Kd.int .u8) (w0 := w1) w1.heap.size (by rfl) (.tmp 54) (.tmp 55) 30 5 (.int .u8 0) 1 rfl Try.underlying30 info_u8 rfl (by decide) (by omega) ve M 0 [.int .u8 0] (fun _ => True) (fun _ => False) rfl rfl rfl (fun _ hk => hk.elim) (fun _ _ => trivial) HOz.out HBz.out (below_size HBz.out) (by (try simp only [List.length_append]); omega) ?_
          intro vf wf ho hb hg hat
          clear hat
          have HOf := Aside0.mk ho
          have HBf := Aside0.mk hb
          have HXf := Aside0.mk (show wf.heap[B]? = some (.cells #[.int .i64 f0, .int .u64 f1, .bool false, .slice A4 f3.length c4] 87 (0, 0)) from (hg.block B (blk_lt HXz.out) (Kd.R_ne HOz.out HXz.out (by decide))).trans HXz.out)
          clear ho hb hg
          refine hK.out _ _ (((blk_cell HXf.out 3).trans rfl)) (fun hHeld => ?_)
          clear hK K
          refine norm_ (a' := ?_) ?_ ?_
          rotate_left
          · show Act.put _ (some 56) _ = _
            simp only [Act.put, List.setIfInBounds_toArray, List.set_cons_zero, List.set_cons_succ, i64_w, i32_w]
            rfl
          refine one_ (i := 5) (N := some 59) #[true, true, true, true, true, true, false, false] rfl rfl (by kernel_rfl) (by decide) (fun K hK => ?_)
          refine goes_ Try.func41 (by kernel_rfl) rfl #[.slice A4 f3.length c4] (by rfl) rfl rfl (by simp only [List.map_toArray, List.map_cons, List.map_nil]; rfl) ?_
          with_reducible refine ((HVC.out _ (Kd.C_below HCW.out HBf.out))).mono ?_
          rintro e wg ⟨vg, rfl, ho, hb⟩
          have HBg := Aside0.mk (below_step HBf.out hb)
          have HOg := Aside0.mk (Kd.R_below HOf.out hb)
          have HXg := Aside0.mk (blk_below HXf.out hb)
          obtain ⟨Ag, cg, hvg, hcg, hCg⟩ := Kd.R_reads ho
          subst hvg
          have HCg := Aside0.mk hCg
          clear ho hb hcg hCg
          refine ⟨_, rfl, ?_⟩
          refine hK.out _ _ (((blk_cell HXg.out 3).trans rfl)) (fun hHeld => ?_)
          clear hK K
          refine norm_ (a' := ?_) ?_ ?_
          rotate_left
          · show Act.put _ (some 59) _ = _
            simp only [Act.put, List.setIfInBounds_toArray, List.set_cons_zero, List.set_cons_succ, i64_w, i32_w]
            rfl
          refine one_ (i := 6) (N := some 60) #[true, true, true, true, true, true, true, false] rfl rfl (by kernel_rfl) (by decide) (fun K hK => ?_)
          refine Kd.R_append_rows_step (Kd.int .u8) (w0 := w1) w1.heap.size (by rfl) (.tmp 56) (.tmp 59) 30 5 (.int .u8 0) 1 rfl Try.underlying30 info_u8 rfl (by decide) (by omega) vf (M ++ [0]) vv _ _ _ (fun _ => True) (fun _ => False) rfl rfl HOg.out HCg.out (fun _ _ h => h) (fun _ h => h.elim) (fun _ _ => trivial) HBg.out (below_size HBg.out) (by simp only [List.length_append, List.length_cons, List.length_nil]; omega) ?_
          intro vh wh ho hb hg hat
          clear hat
          rw [List.append_assoc, HNX2.out] at ho
          have HOh := Aside0.mk ho
          have HBh := Aside0.mk hb
          have HXh := Aside0.mk (show wh.heap[B]? = some (.cells #[.int .i64 f0, .int .u64 f1, .bool false, .slice A4 f3.length c4] 87 (0, 0)) from (hg.block B (blk_lt HXg.out) (Kd.R_ne HOg.out HXg.out (by decide))).trans HXg.out)
          clear ho hb hg
          refine hK.out _ _ (((blk_cell HXh.out 3).trans rfl)) (fun hHeld => ?_)
          clear hK K
          refine norm_ (a' := ?_) ?_ ?_
          rotate_left
          · show Act.put _ (some 60) _ = _
            simp only [Act.put, List.setIfInBounds_toArray, List.set_cons_zero, List.set_cons_succ, i64_w, i32_w]
            rfl
          refine pure_ (i := 7) (N := some 3) (v := ?_) (a' := ?_) #[true, true, true, true, true, true, true, true] rfl rfl (by kernel_rfl) (fun _ _ _ h => h) (Or.inl ⟨by rfl, ?_⟩) ?_ ?_
          rotate_left
          · intro w'
            go_simp
            with_reducible rfl
          rotate_left
          · simp only [Act.put, List.setIfInBounds_toArray, List.set_cons_zero, List.set_cons_succ, i64_w, i32_w]
            rfl
          refine done_ (by kernel_rfl) ?_
          go_wp2_with fail
          go_roundg (l5.length - (kk + 1))
          case measure => omega
          case rel => exact ⟨kk + 1, by omega, by omega, by go_num, HOh, HBh⟩
      · have hltz : ¬ (kk : Int) < (l5.length : Int) := by omega
        have hn := HOk.out
        rw [List.take_of_length_le (by omega), HRBF.out] at hn
        have HN := Aside0.mk hn
        clear hn
        go_wp2_with fail
        exact tail _ _ _ _ _ _ _ _ _ _ _ _ _ _ _ _ _ _ _ _ _ _ _ _ _ _ _ _ _ _ _ _ _ _ _ _ _ _ _ _ _ _ _ _ _ _ _ _ _ _ _ _ _ _ _ _ _ _ _ _ _ _ _ _ _ _ _ _ _ _ _ _ _ _ _ _ _ _ _ _ _ _ _ _ _ _ _ _ _ _ _ _ _ _ _ _ _ _ _ _ _ _ _ _ _ _ rfl HN HBk
  by_cases k4 : a0 = 4
  · subst k4
    obtain ⟨hv, hlv⟩ : (∀ v ∈ l6, right v = true) ∧ l6.length ≤ 100 := by
      rcases HKINDS.out with h | h | h | h | h
      · exact absurd h.1 (by decide)
      · exact absurd h.1 (by decide)
      · exact absurd h.1 (by decide)
      · exact h.2
      · exact absurd h.1 (by decide)
    have HV := Aside0.mk hv
    have HLV := Aside0.mk hlv
    clear HKINDS hv hlv
    have q3 : w2.cell? ⟨W.heap.size, 3, none⟩ = some (.int .i64 a3) := ((blk_cell (blk_below HX1.out HB2.out) 3).trans rfl)
    have q6 : w2.cell? ⟨W.heap.size, 6, none⟩ = some (.slice A6 l6.length c6) := ((blk_cell (blk_below HX1.out HB2.out) 6).trans rfl)
    obtain ⟨l2, hl2⟩ : ∃ l2 : List Int, l2 = [a3 % 256, (l6.length : Int) % 256] := ⟨_, rfl⟩
    have hl2l : l2.length ≤ 2 := by rw [hl2]; exact Nat.le_refl 2
    have HL2 := Aside0.mk hl2
    clear hl2
    go_upto_region 20 with (first
      | ((with_reducible refine gate_dst (N := 91) rfl ?_); refine Kd.R_lit (Kd.int .u8) (w0 := w2) w2.heap.size 5 ?hg (N := 91) ?hd (xs := ([a3 % 256, (l6.length : Int) % 256] : List Int)) (inner := [.int .u8 (a3 % 256), .int .u8 ((l6.length : Int) % 256)]) (ok := fun _ => True) (okp := fun _ => True) ?hr ?hp (fun _ hk => hk) trivial (Below.refl _ _) (Nat.le_refl _) (by simp) ?_; (case hd => rfl); (case hg => rfl); (case hr => first | (go_simp; done) | (go_simp; rfl)); (case hp => exact (Reps.one (show Kd.M (Kd.int .u8) _ _ _ (a3 % 256) [.int .u8 (a3 % 256)] from rfl) (Reps.one (show Kd.M (Kd.int .u8) _ _ _ ((l6.length : Int) % 256) [.int .u8 ((l6.length : Int) % 256)] from rfl) (Reps.none _ _)))); intro vl w4 ho hb hg hnew; clear hg hnew; rw [← HL2.out] at ho; obtain ⟨Al, cl, hvl, hcl, hCl⟩ := Kd.R_reads ho; subst hvl; have HCl := Aside0.mk hCl; have HO4 := Aside0.mk (Kd.R_below HO2.out hb); have HB4 := Aside0.mk (below_step HB2.out hb); clear ho hb hcl hCl)
      | ((with_reducible refine gate_builtin (b := .append) (xs := #[.tmp 83, .tmp 91]) rfl ?_); at_builtin; refine Kd.R_append_rows (Kd.int .u8) (w0 := w1) w1.heap.size rfl (.tmp 83) (.tmp 91) 30 5 (.int .u8 0) 1 rfl Try.underlying30 info_u8 rfl (by decide) (by omega) v3 b0 l2 _ _ _ (fun _ => True) (fun _ => False) rfl rfl HO4.out HCl.out (fun _ _ h => h) (fun _ h => h.elim) (fun _ _ => trivial) HB4.out (below_size HB4.out) (by (try simp only [List.length_append]); omega) ?_; intro v5 w5 ho hb hg hat; clear hg hat; have HO5 := Aside0.mk ho; have HB5 := Aside0.mk hb; clear ho hb))
    have HRBF := Aside0.mk (show b0 ++ l2 ++ vecsB l6 = recB 4 a1 a2 a3 a4 l5 l6 by rw [HB0.out, HL2.out]; rfl)
    obtain ⟨b1, hb1⟩ : ∃ b1, b1 = b0 ++ l2 := ⟨_, rfl⟩
    have hb1l : b1.length ≤ 3 := by rw [hb1, List.length_append]; omega
    rw [← hb1] at HRBF HO5
    clear hb1 q3 q6
    have q6 : w5.cell? ⟨W.heap.size, 6, none⟩ = some (.slice A6 l6.length c6) := ((blk_cell (blk_below HX1.out HB5.out) 6).trans rfl)
    go_wp2_with fail
    go_loopg [3, 7, 96] l6.length (fun gg v3 _ s96 wr => ∃ kk : Nat, kk ≤ l6.length ∧ l6.length - kk ≤ gg ∧ s96 = .int .i64 kk ∧ Aside0 (Kd.R (Kd.int .u8) 5 wr w1.heap.size (fun _ => True) v3 (b1 ++ vecsB (l6.take kk))) ∧ Aside0 (Below w1.heap.size w1 wr))
    case atStart => exact ⟨0, by omega, by omega, rfl, ⟨by simpa [vecsB] using HO5.out⟩, HB5⟩
    case round =>
      obtain ⟨kk, hkk, hg, rfl, HOk, HBk⟩ := hrel
      obtain ⟨wo, rfl⟩ : ∃ wo, wo = wr := ⟨_, rfl⟩
      by_cases hlt : kk < l6.length
      · have hltz : (kk : Int) < (l6.length : Int) := by omega
        obtain ⟨ad, A4, c4, hA, p0, hl4, hC4⟩ := P.at_L4 (Kd.C_below HC6.out HBk.out) (kk : Int) (by omega) (by omega)
        subst hA
        simp only [Int.toNat_natCast] at p0
        have hxe : P.rd_L4 l6 (kk : Int) = l6[kk] := by rw [rd_getD]; exact getD_of_lt l6 kk _ hlt
        have hrt : right (P.rd_L4 l6 (kk : Int)) = true := by rw [hxe]; exact HV.out _ (List.getElem_mem hlt)
        have hL : (b1 ++ vecsB (l6.take kk)).length ≤ 10000 := by
          have hlv := HLV.out
          have := vecsB_le (l6.take kk) (fun v hv => HV.out v (List.mem_of_mem_take hv))
          rw [List.length_take] at this
          rw [List.length_append]
          omega
        have HNX := Aside0.mk (show b1 ++ vecsB (l6.take kk) ++ vecB (P.rd_L4 l6 (kk : Int)) = b1 ++ vecsB (l6.take (kk + 1)) by
          rw [hxe, List.take_succ_eq_append_getElem hlt]; unfold vecsB; rw [List.map_append, List.flatten_append, List.append_assoc]; simp)
        have hr4 := (right_range hrt).1
        have hvl : (vecB (P.rd_L4 l6 (kk : Int))).length ≤ 17 := vecB_le hrt
        have HVC := Aside0.mk (P.quiverref07_Vec.calls ((P.rd_L4 l6 (kk : Int)).length + 12) A4 c4 (P.rd_L4 l6 (kk : Int)) (vecB (P.rd_L4 l6 (kk : Int))) wo hC4 hl4 (rvec_is _ (by omega) _ (Nat.le_refl _)))
        clear hxe hrt hr4 hC4 hl4
        generalize P.rd_L4 l6 (kk : Int) = x at *
        generalize vecB x = vb at *
        generalize b1 ++ vecsB (l6.take kk) = L at *
        go_wp2_with (first
          | (go_at_call 41; refine HVC.out.mono ?_; rintro e w7 ⟨vl, rfl, ho, hb⟩; obtain ⟨Al, cl, hvl, hcl, hCl⟩ := Kd.R_reads ho; subst hvl; have HCl := Aside0.mk hCl; have HO7 := Aside0.mk (Kd.R_below HOk.out hb); have HB7 := Aside0.mk (below_step HBk.out hb); clear ho hb hcl hCl)
          | ((with_reducible refine gate_builtin (b := .append) (xs := #[.tmp 100, .tmp 102]) rfl ?_); at_builtin; refine Kd.R_append_rows (Kd.int .u8) (w0 := w1) w1.heap.size rfl (.tmp 100) (.tmp 102) 30 5 (.int .u8 0) 1 rfl Try.underlying30 info_u8 rfl (by decide) (by omega) u3 L vb _ _ _ (fun _ => True) (fun _ => False) rfl rfl HO7.out HCl.out (fun _ _ h => h) (fun _ h => h.elim) (fun _ _ => trivial) HB7.out (below_size HB7.out) (by (try simp only [List.length_append]); omega) ?_; intro v8 w8 ho hb hg hat; clear hg hat; rw [HNX.out] at ho; have HO8 := Aside0.mk ho; have HB8 := Aside0.mk hb; clear ho hb))
        go_roundg (l6.length - (kk + 1))
        case measure => omega
        case rel => exact ⟨kk + 1, by omega, by omega, by go_num, HO8, HB8⟩
      · have hltz : ¬ (kk : Int) < (l6.length : Int) := by omega
        have hn := HOk.out
        rw [List.take_of_length_le (by omega), HRBF.out] at hn
        have HN := Aside0.mk hn
        clear hn
        go_wp2_with fail
        exact tail _ _ _ _ _ _ _ _ _ _ _ _ _ _ _ _ _ _ _ _ _ _ _ _ _ _ _ _ _ _ _ _ _ _ _ _ _ _ _ _ _ _ _ _ _ _ _ _ _ _ _ _ _ _ _ _ _ _ _ _ _ _ _ _ _ _ _ _ _ _ _ _ _ _ _ _ _ _ _ _ _ _ _ _ _ _ _ _ _ _ _ _ _ _ _ _ _ _ _ _ _ _ _ _ _ _ rfl HN HBk
  have k5 : a0 = 5 := by
    rcases HKINDS.out with h | h | h | h | h
    · exact absurd h.1 k1
    · exact absurd h.1 k2
    · exact absurd h.1 k3
    · exact absurd h.1 k4
    · exact h.1
  subst k5
  have HH := Aside0.mk (high8 a2)
  have HFIN := Aside0.mk (show b0 ++ putBytes 8 a2 = recB 5 a1 a2 a3 a4 l5 l6 by rw [HB0.out]; rfl)
  have hp8 : (putBytes 8 a2).length ≤ 8 := Nat.le_of_eq (put8_len a2)
  generalize putBytes 8 a2 = p8 at *
  have q2 : w2.cell? ⟨W.heap.size, 2, none⟩ = some (.int .u64 a2) := ((blk_cell (blk_below HX1.out HB2.out) 2).trans rfl)
  clear HKINDS k1 k2 k3 k4
  go_wp2_with (first
    | (go_at_call 101; refine (HH.out _).mono ?_; rintro e w4 ⟨vl, rfl, ho, hb⟩; obtain ⟨Al, cl, hvl, hcl, hCl⟩ := Kd.R_reads ho; subst hvl; have HCl := Aside0.mk hCl; have HO4 := Aside0.mk (Kd.R_below HO2.out hb); have HB4 := Aside0.mk (below_step HB2.out hb); clear ho hb hcl hCl)
    | ((with_reducible refine gate_builtin (b := .append) (xs := #[.tmp 14, .tmp 17]) rfl ?_); at_builtin; refine Kd.R_append_rows (Kd.int .u8) (w0 := w1) w1.heap.size rfl (.tmp 14) (.tmp 17) 30 5 (.int .u8 0) 1 rfl Try.underlying30 info_u8 rfl (by decide) (by omega) v3 b0 p8 _ _ _ (fun _ => True) (fun _ => False) rfl rfl HO4.out HCl.out (fun _ _ h => h) (fun _ h => h.elim) (fun _ _ => trivial) HB4.out (below_size HB4.out) (by (try simp only [List.length_append]); omega) ?_; intro v5 w5 ho hb hg hat; clear hg hat; have HO5 := Aside0.mk ho; have HB5 := Aside0.mk hb; clear ho hb))
  exact tail _ _ _ _ _ _ _ _ _ _ _ _ _ _ _ _ _ _ _ _ _ _ _ _ _ _ _ _ _ _ _ _ _ _ _ _ _ _ _ _ _ _ _ _ _ _ _ _ _ _ _ _ _ _ _ _ _ _ _ _ _ _ _ _ _ _ _ _ _ _ _ _ _ _ _ _ _ _ _ _ _ _ _ _ _ _ _ _ _ _ _ _ _ _ _ _ _ _ _ _ _ _ _ _ _ _ rfl ⟨by rw [← HFIN.out]; exact HO5.out⟩ HB5
end

end Go.Proofs.Ytngjaaldidmgjaa.G
