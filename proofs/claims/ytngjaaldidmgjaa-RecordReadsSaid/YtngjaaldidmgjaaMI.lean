/- Plain: what quiverlaw24.few gives; its contract. Words for the walks of quiverlaw24: records that come in, two of few's. -/
import Derived.Test.YtngjaaldidmgjaaMH
import Derived.Deep.QuietTactic
import Derived.BigQuiet
import Derived.Deep.RegionWith
import Derived.Deep.CutRange
import Derived.Deep.DeepCutAuto
namespace Go.Proofs.Ytngjaaldidmgjaa.G

section
open Go.Shelf Go.RowKit Go.Proofs.YtngjaaldidmgjaaW.PrintWords Go.Proofs.YtngjaaldidmgjaaW.PrintLast Go.Proofs.YtngjaaldidmgjaaW.PrintMore
set_option linter.unusedVariables false
set_option linter.unusedSimpArgs false

theorem C_vlen {W : World} {A : Option Addr} {l : List (List Int)} (h : Kd.C kV W A l.length l) : ∀ x ∈ l, x.length ≤ 9223372036854775807 := by
  intro x hx
  obtain ⟨i, hi, rfl⟩ := List.mem_iff_getElem.1 hx
  obtain ⟨ad, A4, c4, hA, p0, hl4, hC4⟩ := P.at_L4 h (i : Int) (by omega) (by omega)
  have er : P.rd_L4 l (i : Int) = l[i] := by unfold P.rd_L4; rw [Int.toNat_natCast]; exact getD_of_lt l i _ hi
  rw [er] at hC4
  exact Kd.C_max hC4
end

section
open Go.Shelf Go.RowKit Go.Proofs.YtngjaaldidmgjaaW.PrintWords Go.Proofs.YtngjaaldidmgjaaW.PrintLast Go.Proofs.YtngjaaldidmgjaaW.PrintMore
attribute [local go_sem] max2_int min2_int max_two min_two
set_option linter.unusedVariables false
set_option linter.unusedSimpArgs false

/-- A record's cells. -/
abbrev rcL (r : Rc) (A5 : Option Addr) (c5 : Nat) (A6 : Option Addr) (c6 : Nat) : Array Value := #[.int .i64 r.f0, .int .u64 r.f1, .int .u64 r.f2, .int .i64 r.f3, .int .i64 r.f4, .slice A5 r.f5.length c5, .slice A6 r.f6.length c6]
abbrev zcL : Array Value := #[.int .i64 0, .int .u64 0, .int .u64 0, .int .i64 0, .int .i64 0, .slice none 0 0, .slice none 0 0]
theorem S_fr {α : Type} {d : Kd α} {e base t B : Nat} {ok : Nat → Prop} {W W1 : World} {v : Value} {xs : List α} {cells : Array Value} (h : Kd.S d e W base ok v xs) (hX : W.heap[B]? = some (.cells cells t (0, 0))) (ht : ∀ q, q ∈ e :: d.E → q ≠ t) (hf : Fr (· = B) W W1) : Kd.S d e W1 base ok v xs :=
  Kd.S_mono (Kd.S_step (Kd.S_types h hX ht) (fun k hk hlt => hf.block hlt hk.2)) (fun k hk => hk.1)

/-- A new record's box: its cells. -/
theorem boxF {w : World} {B : Nat} (h : w.heap[B]? = some (.cells zcL 28 (0, 0))) :
    (w.cell? ⟨B, 0, none⟩ = some (.int .i64 0) ∧ w.cell? ⟨B, 1, none⟩ = some (.int .u64 0) ∧ w.cell? ⟨B, 2, none⟩ = some (.int .u64 0) ∧ w.cell? ⟨B, 3, none⟩ = some (.int .i64 0) ∧ w.cell? ⟨B, 4, none⟩ = some (.int .i64 0) ∧ w.cell? ⟨B, 5, none⟩ = some (.slice none 0 0) ∧ w.cell? ⟨B, 6, none⟩ = some (.slice none 0 0)) ∧
    (w.frozen? ⟨B, 0, none⟩ = false ∧ w.frozen? ⟨B, 1, none⟩ = false ∧ w.frozen? ⟨B, 2, none⟩ = false ∧ w.frozen? ⟨B, 3, none⟩ = false ∧ w.frozen? ⟨B, 4, none⟩ = false ∧ w.frozen? ⟨B, 5, none⟩ = false ∧ w.frozen? ⟨B, 6, none⟩ = false) :=
  ⟨⟨(blk_cell h 0).trans rfl, (blk_cell h 1).trans rfl, (blk_cell h 2).trans rfl, (blk_cell h 3).trans rfl, (blk_cell h 4).trans rfl, (blk_cell h 5).trans rfl, (blk_cell h 6).trans rfl⟩, blk_frozen h 0, blk_frozen h 1, blk_frozen h 2, blk_frozen h 3, blk_frozen h 4, blk_frozen h 5, blk_frozen h 6⟩
theorem rcF {w : World} {B : Nat} {r : Rc} {A5 : Option Addr} {c5 : Nat} {A6 : Option Addr} {c6 : Nat} (h : w.heap[B]? = some (.cells (rcL r A5 c5 A6 c6) 28 (0, 0))) :
    w.cell? ⟨B, 0, none⟩ = some (.int .i64 r.f0) ∧ w.cell? ⟨B, 1, none⟩ = some (.int .u64 r.f1) ∧ w.cell? ⟨B, 2, none⟩ = some (.int .u64 r.f2) ∧ w.cell? ⟨B, 3, none⟩ = some (.int .i64 r.f3) ∧ w.cell? ⟨B, 4, none⟩ = some (.int .i64 r.f4) ∧ w.cell? ⟨B, 5, none⟩ = some (.slice A5 r.f5.length c5) ∧ w.cell? ⟨B, 6, none⟩ = some (.slice A6 r.f6.length c6) :=
  ⟨(blk_cell h 0).trans rfl, (blk_cell h 1).trans rfl, (blk_cell h 2).trans rfl, (blk_cell h 3).trans rfl, (blk_cell h 4).trans rfl, (blk_cell h 5).trans rfl, (blk_cell h 6).trans rfl⟩
abbrev RowsS (w : World) (r : Rc) (A5 : Option Addr) (c5 : Nat) (A6 : Option Addr) (c6 : Nat) (b : Nat) : Prop := Kd.S kW 87 w b (fun _ => True) (.slice A5 r.f5.length c5) r.f5 ∧ Kd.S kV 40 w b (fun _ => True) (.slice A6 r.f6.length c6) r.f6
theorem RowsS.below {w w1 : World} {r : Rc} {A5 : Option Addr} {c5 : Nat} {A6 : Option Addr} {c6 b : Nat} (h : RowsS w r A5 c5 A6 c6 b) (hb : Below w.heap.size w w1) : RowsS w1 r A5 c5 A6 c6 b := ⟨Kd.S_below h.1 hb, Kd.S_below h.2 hb⟩
theorem RowsS.fr {w w1 : World} {r : Rc} {A5 : Option Addr} {c5 : Nat} {A6 : Option Addr} {c6 b B : Nat} {cells : Array Value} (h : RowsS w r A5 c5 A6 c6 b) (hX : w.heap[B]? = some (.cells cells 28 (0, 0))) (hf : Fr (· = B) w w1) : RowsS w1 r A5 c5 A6 c6 b := ⟨S_fr h.1 hX (by decide) hf, S_fr h.2 hX (by decide) hf⟩
/-- A record in a box, its rows readable. -/
def RcAt (w : World) (B : Nat) (r : Rc) (A5 : Option Addr) (c5 : Nat) (A6 : Option Addr) (c6 : Nat) : Prop :=
  w.heap[B]? = some (.cells (rcL r A5 c5 A6 c6) 28 (0, 0)) ∧ (Kd.C kW w A5 r.f5.length r.f5 ∧ r.f5.length ≤ c5) ∧ (Kd.C kV w A6 r.f6.length r.f6 ∧ r.f6.length ≤ c6)
theorem RcAt.below {w w1 : World} {B : Nat} {r : Rc} {A5 : Option Addr} {c5 : Nat} {A6 : Option Addr} {c6 : Nat} (h : RcAt w B r A5 c5 A6 c6) (hb : Below w.heap.size w w1) : RcAt w1 B r A5 c5 A6 c6 := ⟨blk_below h.1 hb, ⟨Kd.C_below h.2.1.1 hb, h.2.1.2⟩, Kd.C_below h.2.2.1 hb, h.2.2.2⟩
theorem RowsS.at {w : World} {r : Rc} {A5 : Option Addr} {c5 : Nat} {A6 : Option Addr} {c6 b B : Nat} (h : RowsS w r A5 c5 A6 c6 b) (hX : w.heap[B]? = some (.cells (rcL r A5 c5 A6 c6) 28 (0, 0))) : RcAt w B r A5 c5 A6 c6 :=
  ⟨hX, ⟨(Kd.N_reads' (Kd.S_N h.1)).2.2, (Kd.N_reads' (Kd.S_N h.1)).2.1⟩, (Kd.N_reads' (Kd.S_N h.2)).2.2, (Kd.N_reads' (Kd.S_N h.2)).2.1⟩
theorem cut_take (A : Option Addr) (c : Nat) (l : List Int) (n : Nat) (hn : n ≤ l.length) (hc : l.length ≤ c) : (∀ W : World, (Instr.slice 30 (.slice A l.length c) none (some (.int .i64 (n : Int))) none).run Try.prog W = .ok (.slice A (l.take n).length c) W) ∧
    (∀ W, Kd.C (Kd.int .u8) W A l.length l → Kd.C (Kd.int .u8) W A (l.take n).length (l.take n)) ∧ (l.take n).length ≤ c := by
  obtain ⟨i0, hi0, _, hsz0, _⟩ := info_parts info_u8
  obtain ⟨h1, h2, h3⟩ := print_take_of (P := Try.prog) (Value.int .u8) 0 30 5 .i64 Try.underlying30 hi0 hsz0 A c l (n : Int) (by omega) (by omega) hc
  rw [Int.toNat_natCast] at h1 h2 h3
  exact ⟨h1, fun W hC => Kd.C_of_reads (h1 := fun _ => rfl) (h2 W (Kd.reads_of_C hC)), h3⟩
/-- A world in which what lay in w0 lies as it lay. -/
structure Gr (w0 : World) where
  w : World
  h : Below w0.heap.size w0 w
instance (w0 : World) : Inhabited (Gr w0) := ⟨⟨w0, Below.refl _ _⟩⟩
theorem wp_region_gr {P : Program} {id : Nat} {Q : Exit → Act → World → Prop} {a : Act} {w : World} {l : List Oper} (hm : P.follows .mixedOrders = true) (hB : Region.lexB .any l.toArray = true)
    (h : wpQuiet P l.toArray (fun w' => ∃ p : Gr w, w' = p.w) (fun a' => ∀ w', (∃ p : Gr w, w' = p.w) → Q .normal a' w') l a) : (Code.region id l.toArray true).wp P Q a w :=
  wp_region_quiet (C := fun w' => ∃ p : Gr w, w' = p.w) hm hB ⟨⟨w.drew, below_drew1 (Below.refl _ _)⟩, rfl⟩ (by simpa using h)
theorem Gr.cell {w0 : World} {a : Addr} {v : Value} (h : w0.cell? a = some v) (p : Gr w0) : p.w.cell? a = some v := (p.h.cell (World.block_lt_of_cell? w0 _ h)).trans h
theorem Calls.gr_of {P : Program} {f : FuncId} {args : Array Value} {w0 : World} {p : Gr w0} {v : Value}
    (h : Calls P f args p.w fun e w' => e = .returned v ∧ Below p.w.heap.size p.w w') : Calls P f args p.w fun e w'' => e = .returned v ∧ ∃ q : Gr w0, w'' = q.w :=
  h.mono fun _ w'' ⟨he, hb⟩ => ⟨he, ⟨w'', below_step p.h hb⟩, rfl⟩
abbrev zRc : Rc := ⟨0, 0, 0, 0, 0, [], []⟩
/-- Decode, told in one. -/
theorem decU (A : Option Addr) (c : Nat) (bs : List Int) (W : World) (hr : Kd.C (Kd.int .u8) W A bs.length bs) (hc : bs.length ≤ c) (hl : bs.length < 140737488355328) (hby : ∀ x ∈ bs, isB x) :
    Calls Try.prog 46 #[.slice A bs.length c] W fun e w' => ∃ z A5 c5 A6 c6 n, e = .returned (.tuple #[.agg (rcL z A5 c5 A6 c6), .int .i64 n]) ∧ (Kd.F kW w' (fun k => W.heap.size < k) A5 z.f5.length z.f5 ∧ z.f5.length ≤ c5) ∧ (Kd.F kV w' (fun k => W.heap.size < k) A6 z.f6.length z.f6 ∧ z.f6.length ≤ c6) ∧
      n = (if decOk bs = true then 0 else 172) ∧ z = (if decOk bs = true then (sDec bs).rec_ else zRc) ∧ Below W.heap.size W w' := by
  refine (decGo A c bs W hr hc hl hby).mono ?_
  rintro e w' ⟨h1, h2, hb⟩
  cases hd : decOk bs with
  | true =>
    obtain ⟨A5, c5, A6, c6, rfl, f5, f6⟩ := h1 hd
    exact ⟨(sDec bs).rec_, A5, c5, A6, c6, 0, rfl, f5, f6, rfl, rfl, hb⟩
  | false =>
    obtain rfl := h2 hd
    exact ⟨zRc, none, 0, none, 0, 172, rfl, ⟨Kd.F_nil _ _ _, Nat.le_refl _⟩, ⟨Kd.F_nil _ _ _, Nat.le_refl _⟩, rfl, rfl, hb⟩
end

end Go.Proofs.Ytngjaaldidmgjaa.G
