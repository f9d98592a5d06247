/- Plain: what quiverlaw24.few gives; its contract. Words for the walks of quiverlaw24: records that come in, two of few's. quiverlaw24.RecordJoined answers true. -/
import Derived.Test.YtngjaaldidmgjaaMH
import Derived.Deep.QuietTactic
import Derived.BigQuiet
import Derived.Deep.RegionWith
import Derived.Deep.CutRange
import Derived.Deep.DeepCutAuto
namespace Go.Proofs.Ytngjaaldidmgjaa.G

section
open Go.Shelf Go.RowKit Go.Proofs.YtngjaaldidmgjaaW.PrintWords Go.Proofs.YtngjaaldidmgjaaW.PrintLast Go.Proofs.YtngjaaldidmgjaaW.PrintMore
set_option linter.unusedVariables false
set_option linter.unusedSimpArgs false

def few5 (l : List Wr) : List Wr := (l.take 13).map (fun x => ⟨x.f0, x.f1, x.f2, x.f3.take 5⟩)
def few6 (l : List (List Int)) : List (List Int) := (l.take 7).map (List.take 5)
def fewR (r : Rc) : Rc := ⟨r.f0, r.f1, r.f2, r.f3, r.f4, few5 r.f5, few6 r.f6⟩
theorem fvec_is (l : List Int) (hl : l.length ≤ 9223372036854775807) : P.quiverlaw24_vec.f l = some (l.take 5) := by
  unfold P.quiverlaw24_vec.f
  have hm : mn (l.length : Int) 5 = ((min l.length 5 : Nat) : Int) := by unfold mn; split <;> omega
  rw [Option.bind_some, hm, if_pos (by omega), if_pos (by omega), Int.toNat_natCast, List.nil_append]
  have e : l.take (min l.length 5) = l.take 5 := by
    rcases Nat.le_total l.length 5 with h | h
    · rw [Nat.min_eq_left h, List.take_length, List.take_of_length_le h]
    · rw [Nat.min_eq_right h]
  rw [e, if_pos (by simp only [List.length_nil, List.length_take]; omega)]
theorem few_l1 (x3 : List Wr) (a0 a1 a2 a3 a4 : Int) (l5 : List Wr) (l6 : List (List Int)) (hl : l6.length ≤ 9223372036854775807) (hv : ∀ v ∈ l6, v.length ≤ 9223372036854775807) : ∀ (d i k : Nat) (acc : List (List Int)), i + d = l6.length → d < k → acc.length ≤ i → acc.length ≤ 7 →
    P.quiverlaw24_few.l1 k x3 acc l6 (l6.length : Int) (i : Int) a0 a1 a2 a3 a4 l5 l6 = some (a0, a1, a2, a3, a4, x3, acc ++ ((l6.take 7).drop i).map (List.take 5))
  | 0, i, k + 1, acc, h, _, ha, _ => by
    rw [P.quiverlaw24_few.l1, if_neg (by omega), List.drop_eq_nil_of_le (by rw [List.length_take]; omega), List.map_nil, List.append_nil]
  | d + 1, i, k + 1, acc, h, hk, ha, ha7 => by
    have hi : i < l6.length := by omega
    have e1 : wrap64 ((i : Int) + 1) = ((i + 1 : Nat) : Int) := by rw [w64 (by omega) (by omega)]; omega
    rw [P.quiverlaw24_few.l1, if_pos (by omega), if_pos (by omega), if_pos (by omega), e1]
    by_cases h6 : i ≤ 6
    · have er : P.rd_L4 l6 (i : Int) = l6[i] := by unfold P.rd_L4; rw [Int.toNat_natCast]; exact getD_of_lt l6 i _ hi
      rw [if_pos (by omega), er, fvec_is _ (hv _ (List.getElem_mem hi)), Option.bind_some, if_pos (by omega), few_l1 x3 a0 a1 a2 a3 a4 l5 l6 hl hv d (i + 1) k _ (by omega) (by omega) (by rw [List.length_append]; simp; omega) (by rw [List.length_append]; simp; omega)]
      have e2 : (l6.take 7).drop i = l6[i] :: (l6.take 7).drop (i + 1) := by
        rw [List.drop_eq_getElem_cons (by rw [List.length_take]; omega), List.getElem_take]
      rw [e2, List.map_cons, List.append_assoc, List.singleton_append]
    · rw [if_neg (by omega), few_l1 x3 a0 a1 a2 a3 a4 l5 l6 hl hv d (i + 1) k _ (by omega) (by omega) (by omega) ha7, List.drop_eq_nil_of_le (by rw [List.length_take]; omega), List.drop_eq_nil_of_le (by rw [List.length_take]; omega)]
theorem few_l0 (a0 a1 a2 a3 a4 : Int) (l5 : List Wr) (l6 : List (List Int)) (hl5 : l5.length ≤ 9223372036854775807) (hv5 : ∀ x ∈ l5, x.f3.length ≤ 9223372036854775807) (hl : l6.length ≤ 9223372036854775807) (hv : ∀ v ∈ l6, v.length ≤ 9223372036854775807) : ∀ (d i k : Nat) (acc : List Wr), i + d = l5.length → d + l6.length + 1 < k → acc.length ≤ i → acc.length ≤ 13 →
    P.quiverlaw24_few.l0 k acc l5 (l5.length : Int) (i : Int) a0 a1 a2 a3 a4 l5 l6 = some (a0, a1, a2, a3, a4, acc ++ ((l5.take 13).drop i).map (fun x => ⟨x.f0, x.f1, x.f2, x.f3.take 5⟩), few6 l6)
  | 0, i, k + 1, acc, h, hk, ha, _ => by
    rw [P.quiverlaw24_few.l0, if_neg (by omega), List.drop_eq_nil_of_le (by rw [List.length_take]; omega), List.map_nil, List.append_nil, show (0 : Int) = ((0 : Nat) : Int) from rfl, few_l1 acc a0 a1 a2 a3 a4 l5 l6 hl hv l6.length 0 k [] (by omega) (by omega) (by simp) (by simp), List.drop_zero, List.nil_append]
    rfl
  | d + 1, i, k + 1, acc, h, hk, ha, ha7 => by
    have hi : i < l5.length := by omega
    have e1 : wrap64 ((i : Int) + 1) = ((i + 1 : Nat) : Int) := by rw [w64 (by omega) (by omega)]; omega
    rw [P.quiverlaw24_few.l0, if_pos (by omega), if_pos (by omega), if_pos (by omega), e1]
    by_cases h6 : i ≤ 12
    · have er : P.rd_T87 l5 (i : Int) = l5[i] := wrAt_lt l5 i hi
      rw [if_pos (by omega), er, fvec_is _ (hv5 _ (List.getElem_mem hi)), Option.bind_some, if_pos (by omega), few_l0 a0 a1 a2 a3 a4 l5 l6 hl5 hv5 hl hv d (i + 1) k _ (by omega) (by omega) (by rw [List.length_append]; simp; omega) (by rw [List.length_append]; simp; omega)]
      have e2 : (l5.take 13).drop i = l5[i] :: (l5.take 13).drop (i + 1) := by
        rw [List.drop_eq_getElem_cons (by rw [List.length_take]; omega), List.getElem_take]
      rw [e2, List.map_cons, List.append_assoc, List.singleton_append]
    · rw [if_neg (by omega), few_l0 a0 a1 a2 a3 a4 l5 l6 hl5 hv5 hl hv d (i + 1) k _ (by omega) (by omega) (by omega) ha7, List.drop_eq_nil_of_le (by rw [List.length_take]; omega), List.drop_eq_nil_of_le (by rw [List.length_take]; omega)]
theorem few_is (a0 a1 a2 a3 a4 : Int) (l5 : List Wr) (l6 : List (List Int)) (hl5 : l5.length ≤ 9223372036854775807) (hv5 : ∀ x ∈ l5, x.f3.length ≤ 9223372036854775807) (hl : l6.length ≤ 9223372036854775807) (hv : ∀ v ∈ l6, v.length ≤ 9223372036854775807) :
    P.quiverlaw24_few.f (l5.length + l6.length + 2) a0 a1 a2 a3 a4 l5 l6 = some (a0, a1, a2, a3, a4, few5 l5, few6 l6) := by
  unfold P.quiverlaw24_few.f
  rw [show (0 : Int) = ((0 : Nat) : Int) from rfl, few_l0 a0 a1 a2 a3 a4 l5 l6 hl5 hv5 hl hv l5.length 0 _ [] (by omega) (by omega) (by simp) (by simp), List.drop_zero, List.nil_append]
  rfl
theorem C_wlen {W : World} {A : Option Addr} {l : List Wr} (h : Kd.C kW W A l.length l) : ∀ x ∈ l, x.f3.length ≤ 9223372036854775807 := by
  intro x hx
  obtain ⟨i, hi, rfl⟩ := List.mem_iff_getElem.1 hx
  obtain ⟨ad, A4, c4, hA, p0, p1, p2, p3, hl4, hC4⟩ := P.at_T87 h (i : Int) (by omega) (by omega)
  have er : P.rd_T87 l (i : Int) = l[i] := wrAt_lt l i hi
  rw [er] at hC4
  exact Kd.C_max hC4
theorem C_vlen {W : World} {A : Option Addr} {l : List (List Int)} (h : Kd.C kV W A l.length l) : ∀ x ∈ l, x.length ≤ 9223372036854775807 := by
  intro x hx
  obtain ⟨i, hi, rfl⟩ := List.mem_iff_getElem.1 hx
  obtain ⟨ad, A4, c4, hA, p0, hl4, hC4⟩ := P.at_L4 h (i : Int) (by omega) (by omega)
  have er : P.rd_L4 l (i : Int) = l[i] := by unfold P.rd_L4; rw [Int.toNat_natCast]; exact getD_of_lt l i _ hi
  rw [er] at hC4
  exact Kd.C_max hC4
/-- few's contract. -/
theorem fewC (r : Rc) (A5 : Option Addr) (c5 : Nat) (A6 : Option Addr) (c6 : Nat) (w : World) (h5 : Kd.C kW w A5 r.f5.length r.f5) (hc5 : r.f5.length ≤ c5) (h6 : Kd.C kV w A6 r.f6.length r.f6) (hc6 : r.f6.length ≤ c6) :
    Calls Try.prog 15 #[.agg #[.int .i64 r.f0, .int .u64 r.f1, .int .u64 r.f2, .int .i64 r.f3, .int .i64 r.f4, .slice A5 r.f5.length c5, .slice A6 r.f6.length c6]] w fun e w' =>
      ∃ B5 d5 B6 d6, e = .returned (.agg #[.int .i64 r.f0, .int .u64 r.f1, .int .u64 r.f2, .int .i64 r.f3, .int .i64 r.f4, .slice B5 (few5 r.f5).length d5, .slice B6 (few6 r.f6).length d6]) ∧
        Kd.S kW 87 w' w.heap.size (fun _ => True) (.slice B5 (few5 r.f5).length d5) (few5 r.f5) ∧ Kd.S kV 40 w' w.heap.size (fun _ => True) (.slice B6 (few6 r.f6).length d6) (few6 r.f6) ∧ Below w.heap.size w w' := by
  refine (P.quiverlaw24_few.calls _ r.f0 r.f1 r.f2 r.f3 r.f4 A5 c5 r.f5 A6 c6 r.f6 _ _ _ _ _ _ _ w h5 hc5 h6 hc6 (few_is _ _ _ _ _ _ _ (Kd.C_max h5) (C_wlen h5) (Kd.C_max h6) (C_vlen h6))).mono ?_
  rintro e w' ⟨v5, v6, rfl, s5, s6, hb⟩
  obtain ⟨B5, d5, rfl⟩ := Kd.N_slice (Kd.S_N s5)
  obtain ⟨B6, d6, rfl⟩ := Kd.N_slice (Kd.S_N s6)
  exact ⟨B5, d5, B6, d6, rfl, s5, s6, hb⟩
end

section
open Go.Shelf Go.RowKit Go.Proofs.YtngjaaldidmgjaaW.PrintWords Go.Proofs.YtngjaaldidmgjaaW.PrintLast Go.Proofs.YtngjaaldidmgjaaW.PrintMore
attribute [local go_sem] max2_int min2_int max_two min_two
set_option linter.unusedVariables false
set_option linter.unusedSimpArgs false

/-- What is told of a record that comes in. -/
abbrev wfRc (x : Rc) : Prop := (Lit.int .i64 x.f0).wf = true ∧ (Lit.int .u64 x.f1).wf = true ∧ (Lit.int .u64 x.f2).wf = true ∧ (Lit.int .i64 x.f3).wf = true ∧ (Lit.int .i64 x.f4).wf = true ∧ (∀ y ∈ x.f5, (Lit.int .i64 y.f0).wf = true ∧ (Lit.int .u64 y.f1).wf = true ∧ True ∧ ∀ z ∈ y.f3, (Lit.int .i32 z).wf = true) ∧ ∀ y ∈ x.f6, ∀ z ∈ y, (Lit.int .i32 z).wf = true
/-- A record's cells. -/
abbrev rcL (r : Rc) (A5 : Option Addr) (c5 : Nat) (A6 : Option Addr) (c6 : Nat) : Array Value := #[.int .i64 r.f0, .int .u64 r.f1, .int .u64 r.f2, .int .i64 r.f3, .int .i64 r.f4, .slice A5 r.f5.length c5, .slice A6 r.f6.length c6]
abbrev zcL : Array Value := #[.int .i64 0, .int .u64 0, .int .u64 0, .int .i64 0, .int .i64 0, .slice none 0 0, .slice none 0 0]
theorem S_fr {α : Type} {d : Kd α} {e base t B : Nat} {ok : Nat → Prop} {W W1 : World} {v : Value} {xs : List α} {cells : Array Value} (h : Kd.S d e W base ok v xs) (hX : W.heap[B]? = some (.cells cells t (0, 0))) (ht : ∀ q, q ∈ e :: d.E → q ≠ t) (hf : Fr (· = B) W W1) : Kd.S d e W1 base ok v xs :=
  Kd.S_mono (Kd.S_step (Kd.S_types h hX ht) (fun k hk hlt => hf.block hlt hk.2)) (fun k hk => hk.1)

/-- A new record's box: its cells. -/
theorem boxF {w : World} {B : Nat} (h : w.heap[B]? = some (.cells zcL 28 (0, 0))) :
    (w.cell? ⟨B, 0, none⟩ = some (.int .i64 0) ∧ w.cell? ⟨B, 1, none⟩ = some (.int .u64 0) ∧ w.cell? ⟨B, 2, none⟩ = some (.int .u64 0) ∧ w.cell? ⟨B, 3, none⟩ = some (.int .i64 0) ∧ w.cell? ⟨B, 4, none⟩ = some (.int .i64 0) ∧ w.cell? ⟨B, 5, none⟩ = some (.slice none 0 0) ∧ w.cell? ⟨B, 6, none⟩ = some (.slice none 0 0)) ∧
    (w.frozen? ⟨B, 0, none⟩ = false ∧ w.frozen? ⟨B, 1, none⟩ = false ∧ w.frozen? ⟨B, 2, none⟩ = false ∧ w.frozen? ⟨B, 3, none⟩ = false ∧ w.frozen? ⟨B, 4, none⟩ = false ∧ w.frozen? ⟨B, 5, none⟩ = false ∧ w.frozen? ⟨B, 6, none⟩ = false) :=
  ⟨⟨(blk_cell h 0).trans rfl, (blk_cell h 1).trans rfl, (blk_cell h 2).trans rfl, (blk_cell h 3).trans rfl, (blk_cell h 4).trans rfl, (blk_cell h 5).trans rfl, (blk_cell h 6).trans rfl⟩, blk_frozen h 0, blk_frozen h 1, blk_frozen h 2, blk_frozen h 3, blk_frozen h 4, blk_frozen h 5, blk_frozen h 6⟩
theorem rcF {w : World} {B : Nat} {r : Rc} {A5 : Option Addr} {c5 : Nat} {A6 : Option Addr} {c6 : Nat} (h : w.heap[B]? = some (.cells (rcL r A5 c5 A6 c6) 28 (0, 0))) :
    w.cell? ⟨B, 0, none⟩ = some (.int .i64 r.f0) ∧ w.cell? ⟨B, 1, none⟩ = some (.int .u64 r.f1) ∧ w.cell? ⟨B, 2, none⟩ = some (.int .u64 r.f2) ∧ w.cell? ⟨B, 3, none⟩ = some (.int .i64 r.f3) ∧ w.cell? ⟨B, 4, none⟩ = some (.int .i64 r.f4) ∧ w.cell? ⟨B, 5, none⟩ = some (.slice A5 r.f5.length c5) ∧ w.cell? ⟨B, 6, none⟩ = some (.slice A6 r.f6.length c6) :=
  ⟨(blk_cell h 0).trans rfl, (blk_cell h 1).trans rfl, (blk_cell h 2).trans rfl, (blk_cell h 3).trans rfl, (blk_cell h 4).trans rfl, (blk_cell h 5).trans rfl, (blk_cell h 6).trans rfl⟩
abbrev RowsS (w : World) (r : Rc) (A5 : Option Addr) (c5 : Nat) (A6 : Option Addr) (c6 : Nat) (b : Nat) : Prop := Kd.S kW 87 w b (fun _ => True) (.slice A5 r.f5.length c5) r.f5 ∧ Kd.S kV 40 w b (fun _ => True) (.slice A6 r.f6.length c6) r.f6
theorem RowsS.below {w w1 : World} {r : Rc} {A5 : Option Addr} {c5 : Nat} {A6 : Option Addr} {c6 b : Nat} (h : RowsS w r A5 c5 A6 c6 b) (hb : Below w.heap.size w w1) : RowsS w1 r A5 c5 A6 c6 b := ⟨Kd.S_below h.1 hb, Kd.S_below h.2 hb⟩
theorem RowsS.fr {w w1 : World} {r : Rc} {A5 : Option Addr} {c5 : Nat} {A6 : Option Addr} {c6 b B : Nat} {cells : Array Value} (h : RowsS w r A5 c5 A6 c6 b) (hX : w.heap[B]? = some (.cells cells 28 (0, 0))) (hf : Fr (· = B) w w1) : RowsS w1 r A5 c5 A6 c6 b := ⟨S_fr h.1 hX (by decide) hf, S_fr h.2 hX (by decide) hf⟩
/-- A record in a box, its rows readable. -/
def RcAt (w : World) (B : Nat) (r : Rc) (A5 : Option Addr) (c5 : Nat) (A6 : Option Addr) (c6 : Nat) : Prop :=
  w.heap[B]? = some (.cells (rcL r A5 c5 A6 c6) 28 (0, 0)) ∧ (Kd.C kW w A5 r.f5.length r.f5 ∧ r.f5.length ≤ c5) ∧ (Kd.C kV w A6 r.f6.length r.f6 ∧ r.f6.length ≤ c6)
theorem RcAt.below {w w1 : World} {B : Nat} {r : Rc} {A5 : Option Addr} {c5 : Nat} {A6 : Option Addr} {c6 : Nat} (h : RcAt w B r A5 c5 A6 c6) (hb : Below w.heap.size w w1) : RcAt w1 B r A5 c5 A6 c6 := ⟨blk_below h.1 hb, ⟨Kd.C_below h.2.1.1 hb, h.2.1.2⟩, Kd.C_below h.2.2.1 hb, h.2.2.2⟩
theorem RowsS.at {w : World} {r : Rc} {A5 : Option Addr} {c5 : Nat} {A6 : Option Addr} {c6 b B : Nat} (h : RowsS w r A5 c5 A6 c6 b) (hX : w.heap[B]? = some (.cells (rcL r A5 c5 A6 c6) 28 (0, 0))) : RcAt w B r A5 c5 A6 c6 :=
  ⟨hX, ⟨(Kd.N_reads' (Kd.S_N h.1)).2.2, (Kd.N_reads' (Kd.S_N h.1)).2.1⟩, (Kd.N_reads' (Kd.S_N h.2)).2.2, (Kd.N_reads' (Kd.S_N h.2)).2.1⟩
theorem fewS (r : Rc) (A5 : Option Addr) (c5 : Nat) (A6 : Option Addr) (c6 : Nat) (w : World) (h5 : Kd.C kW w A5 r.f5.length r.f5) (hc5 : r.f5.length ≤ c5) (h6 : Kd.C kV w A6 r.f6.length r.f6) (hc6 : r.f6.length ≤ c6) :
    Calls Try.prog 15 #[.agg (rcL r A5 c5 A6 c6)] w fun e w' => ∃ B5 d5 B6 d6, e = .returned (.agg (rcL (fewR r) B5 d5 B6 d6)) ∧ RowsS w' (fewR r) B5 d5 B6 d6 w.heap.size ∧ Below w.heap.size w w' :=
  (fewC r A5 c5 A6 c6 w h5 hc5 h6 hc6).mono (fun e w' ⟨B5, d5, B6, d6, he, s5, s6, hb⟩ => ⟨B5, d5, B6, d6, he, ⟨s5, s6⟩, hb⟩)

theorem cut_take (A : Option Addr) (c : Nat) (l : List Int) (n : Nat) (hn : n ≤ l.length) (hc : l.length ≤ c) : (∀ W : World, (Instr.slice 30 (.slice A l.length c) none (some (.int .i64 (n : Int))) none).run Try.prog W = .ok (.slice A (l.take n).length c) W) ∧
    (∀ W, Kd.C (Kd.int .u8) W A l.length l → Kd.C (Kd.int .u8) W A (l.take n).length (l.take n)) ∧ (l.take n).length ≤ c := by
  obtain ⟨i0, hi0, _, hsz0, _⟩ := info_parts info_u8
  obtain ⟨h1, h2, h3⟩ := print_take_of (P := Try.prog) (Value.int .u8) 0 30 5 .i64 Try.underlying30 hi0 hsz0 A c l (n : Int) (by omega) (by omega) hc
  rw [Int.toNat_natCast] at h1 h2 h3
  exact ⟨h1, fun W hC => Kd.C_of_reads (h1 := fun _ => rfl) (h2 W (Kd.reads_of_C hC)), h3⟩
/-- A world in which what lay in w0 lies as it lay. -/
structure Gr (w0 : World) where
  w : World
  h : Below w0.heap.size w0 w
instance (w0 : World) : Inhabited (Gr w0) := ⟨⟨w0, Below.refl _ _⟩⟩
theorem wp_region_gr {P : Program} {id : Nat} {Q : Exit → Act → World → Prop} {a : Act} {w : World} {l : List Oper} (hm : P.follows .mixedOrders = true) (hB : Region.lexB .any l.toArray = true)
    (h : wpQuiet P l.toArray (fun w' => ∃ p : Gr w, w' = p.w) (fun a' => ∀ w', (∃ p : Gr w, w' = p.w) → Q .normal a' w') l a) : (Code.region id l.toArray true).wp P Q a w :=
  wp_region_quiet (C := fun w' => ∃ p : Gr w, w' = p.w) hm hB ⟨⟨w.drew, below_drew1 (Below.refl _ _)⟩, rfl⟩ (by simpa using h)
theorem Gr.cell {w0 : World} {a : Addr} {v : Value} (h : w0.cell? a = some v) (p : Gr w0) : p.w.cell? a = some v := (p.h.cell (World.block_lt_of_cell? w0 _ h)).trans h
theorem Calls.gr_of {P : Program} {f : FuncId} {args : Array Value} {w0 : World} {p : Gr w0} {v : Value}
    (h : Calls P f args p.w fun e w' => e = .returned v ∧ Below p.w.heap.size p.w w') : Calls P f args p.w fun e w'' => e = .returned v ∧ ∃ q : Gr w0, w'' = q.w :=
  h.mono fun _ w'' ⟨he, hb⟩ => ⟨he, ⟨w'', below_step p.h hb⟩, rfl⟩
abbrev zRc : Rc := ⟨0, 0, 0, 0, 0, [], []⟩
end

section
open Go.Shelf Go.RowKit Go.Proofs.YtngjaaldidmgjaaW.PrintWords Go.Proofs.YtngjaaldidmgjaaW.PrintLast Go.Proofs.YtngjaaldidmgjaaW.PrintMore
set_option linter.unusedVariables false
set_option linter.unusedSimpArgs false

def jn (n : Nat) (l : List Rc) : List Rc := (l.take n).map fewR
theorem jn_len (n : Nat) (l : List Rc) : (jn n l).length ≤ n := by unfold jn; rw [List.length_map, List.length_take]; omega
theorem jn_more (n : Nat) (l : List Rc) (k : Nat) (h : k < l.length) (h8 : k < n) : jn n (l.take (k + 1)) = jn n (l.take k) ++ [fewR l[k]] := by
  unfold jn
  rw [List.take_take, List.take_take, Nat.min_eq_right (by omega), Nat.min_eq_right (by omega), List.take_succ_eq_append_getElem h, List.map_append]
  rfl
theorem jn_same (n : Nat) (l : List Rc) (k : Nat) (h8 : n ≤ k) : jn n (l.take (k + 1)) = jn n (l.take k) := by
  unfold jn
  rw [List.take_take, List.take_take, Nat.min_eq_left (by omega), Nat.min_eq_left (by omega)]
theorem RowsS.fk {w : World} {r : Rc} {A5 : Option Addr} {c5 : Nat} {A6 : Option Addr} {c6 b : Nat} (h : RowsS w r A5 c5 A6 c6 b) : Kd.FK kRc w (fun k => b ≤ k) r (rcL r A5 c5 A6 c6).toList :=
  P.k28_mkF _ _ r (Kd.N_reads' (Kd.S_N h.1)).2.1 (Kd.F_mono (Kd.S_F (Kd.S_bound h.1)) (fun k hk => hk.2.1)) (Kd.N_reads' (Kd.S_N h.2)).2.1 (Kd.F_mono (Kd.S_F (Kd.S_bound h.2)) (fun k hk => hk.2.1))
/-- A row's record. -/
theorem rc_at {w : World} {A : Option Addr} {l : List Rc} (h : Kd.C kRc w A l.length l) (k : Nat) (hk : k < l.length) : ∃ ad A5 c5 A6 c6, A = some ad ∧ w.cell? (ad.add (k * 7)) = some (.int .i64 l[k].f0) ∧ w.cell? ⟨(ad.add (k * 7)).block, (ad.add (k * 7)).off + 1, none⟩ = some (.int .u64 l[k].f1) ∧ w.cell? ⟨(ad.add (k * 7)).block, (ad.add (k * 7)).off + 2, none⟩ = some (.int .u64 l[k].f2) ∧ w.cell? ⟨(ad.add (k * 7)).block, (ad.add (k * 7)).off + 3, none⟩ = some (.int .i64 l[k].f3) ∧
    w.cell? ⟨(ad.add (k * 7)).block, (ad.add (k * 7)).off + 4, none⟩ = some (.int .i64 l[k].f4) ∧ w.cell? ⟨(ad.add (k * 7)).block, (ad.add (k * 7)).off + 5, none⟩ = some (.slice A5 l[k].f5.length c5) ∧ w.cell? ⟨(ad.add (k * 7)).block, (ad.add (k * 7)).off + 6, none⟩ = some (.slice A6 l[k].f6.length c6) ∧ (l[k].f5.length ≤ c5 ∧ Kd.C kW w A5 l[k].f5.length l[k].f5) ∧ (l[k].f6.length ≤ c6 ∧ Kd.C kV w A6 l[k].f6.length l[k].f6) := by
  obtain ⟨ad, A5, c5, A6, c6, hA, p0, p1, p2, p3, p4, p5, p6, hc5, h5, hc6, h6⟩ := P.at_T28 h (k : Int) (by omega) (by omega)
  have hxe : P.rd_T28 l (k : Int) = l[k] := by unfold P.rd_T28; rw [Int.toNat_natCast]; exact getD_of_lt l k _ hk
  rw [hxe] at p0 p1 p2 p3 p4 p5 p6 hc5 h5 hc6 h6
  rw [Int.toNat_natCast] at p0 p1 p2 p3 p4 p5 p6
  exact ⟨ad, A5, c5, A6, c6, hA, p0, p1, p2, p3, p4, p5, p6, ⟨hc5, h5⟩, hc6, h6⟩
end

end Go.Proofs.Ytngjaaldidmgjaa.G
