/- Contracts of slices.stableCmpFunc, slices.SortStableFunc over fewer than twenty cells; of ByRows' order. Contract of arena.ByRows, at fewer than twenty used cells. -/
import Derived.Test.YtoblkjdiahoplaaI
import Derived.Test.YtoblkjdiahoplaaPx9
import Derived.Test.YtoblkjdiahoplaaA4
namespace Go.Proofs.Ytoblkjdiahoplaa.G
open Go.Shelf Go.RowKit Go.Proofs.YtoblkjdiahoplaaW.PrintWords Go.Proofs.YtoblkjdiahoplaaW.PrintLast Go.Proofs.YtoblkjdiahoplaaW.PrintMore
set_option linter.unusedVariables false
set_option linter.unusedSimpArgs false

section
set_option maxHeartbeats 1000000 in
set_option maxRecDepth 100000 in
/-- At most one element: nothing is read. -/
theorem ins_one (v : Value) (b : Nat) (fv : Value) (w : World) (hb : b ≤ 1) :
    Calls Try.prog 63 #[v, .int .i64 0, .int .i64 (b : Int), fv] w fun e w' => e = .returned (.tuple #[]) ∧ w = w' := by
  have hz : ¬ (1 : Int) < (b : Int) := by omega
  go_enter Try.func63, Try.ntmps63
  go_wp2_with fail
  refine wp_loop_rounds 1 ?_
  rw [rounds_succ]
  go_wp2_with fail
  go_end0
  exact ⟨rfl, rfl⟩

set_option maxHeartbeats 1000000 in
set_option maxRecDepth 100000 in
theorem stable_small (v : Value) (n : Nat) (K : Nat) (lb : Array Value) (R : World → Prop) (w : World) (hn : n < 20)
    (H : Calls Try.prog 63 #[v, .int .i64 0, .int .i64 (n : Int), .func (.func K) #[] lb] w fun e w' => e = .returned (.tuple #[]) ∧ R w') :
    Calls Try.prog 55 #[v, .int .i64 (n : Int), .func (.func K) #[] lb] w fun e w' => e = .returned (.tuple #[]) ∧ R w' := by
  have hz : ¬ (20 : Int) ≤ (n : Int) := by omega
  have hz2 : ¬ (20 : Int) < (n : Int) := by omega
  have HH := Aside0.mk H
  clear H
  go_enter Try.func55, Try.ntmps55
  go_wp2_with fail
  refine wp_loop_rounds 1 ?_
  rw [rounds_succ]
  go_wp2_with fail
  refine HH.out.mono ?_
  rintro e w1 ⟨rfl, hr⟩
  have HR := Aside0.mk hr
  clear hr
  go_wp2_with fail
  refine wp_loop_rounds 1 ?_
  rw [rounds_succ]
  go_wp2_with fail
  go_end0
  exact ⟨rfl, HR.out⟩

set_option maxHeartbeats 1000000 in
set_option maxRecDepth 100000 in
theorem sortst_small (A : Option Addr) (n c : Nat) (K : Nat) (lb : Array Value) (R : World → Prop) (w : World) (hn : n < 20)
    (H : Calls Try.prog 63 #[.slice A n c, .int .i64 0, .int .i64 (n : Int), .func (.func K) #[] lb] w fun e w' => e = .returned (.tuple #[]) ∧ R w') :
    Calls Try.prog 34 #[.slice A n c, .func (.func K) #[] lb] w fun e w' => e = .returned (.tuple #[]) ∧ R w' := by
  have HH := Aside0.mk (stable_small (.slice A n c) n K lb R w hn H)
  clear H
  go_enter Try.func34, Try.ntmps34
  go_wp2_with fail
  refine HH.out.mono ?_
  rintro e w1 ⟨rfl, hr⟩
  have HR := Aside0.mk hr
  clear hr
  go_wp2_with fail
  go_end0
  exact ⟨rfl, HR.out⟩

def sgn (x y : Int) : Int := if x < y then -1 else if y < x then 1 else 0
/-- By rows. -/
def cfR (x y : Cell) : Int := if sgn x.f1 y.f1 ≠ 0 then sgn x.f1 y.f1 else sgn x.f2.f0 y.f2.f0
theorem compare_is (x y : Int) : P.cmp_Compare_uint64.f x y = some (sgn x y) := by
  unfold P.cmp_Compare_uint64.f P.cmp_isNaN_uint64.f sgn
  by_cases h : x < y
  · simp [h]
  · by_cases h2 : y < x <;> simp [h, h2]
theorem or_is (s t : Int) : P.cmp_Or_int.f 5 [s, t] = some (if s ≠ 0 then s else t) := by
  have e0 : rd [s, t] 0 = s := rfl
  have e1 : rd [s, t] 1 = t := rfl
  have w1 : wrap64 (0 + 1) = 1 := by rw [w64 (by omega) (by omega)]; rfl
  have w2 : wrap64 (1 + 1) = 2 := by rw [w64 (by omega) (by omega)]; rfl
  unfold P.cmp_Or_int.f
  rw [P.cmp_Or_int.l0, if_pos (by simp), if_pos (by omega), if_pos (by simp), e0]
  by_cases hs : s = 0
  · rw [if_pos hs, if_neg (fun h => h hs), w1, P.cmp_Or_int.l0, if_pos (by simp), if_pos (by omega), if_pos (by simp), e1]
    by_cases ht : t = 0
    · rw [if_pos ht, w2, P.cmp_Or_int.l0, if_neg (by simp), ht]
    · rw [if_neg ht]
  · rw [if_neg hs, if_pos hs]
theorem byrows_is (x y : Cell) : P.arena_ByRows_1.f 5 x.f0 x.f1 x.f2.f0 x.f2.f1 x.f2.f2 y.f0 y.f1 y.f2.f0 y.f2.f1 y.f2.f2 = some (cfR x y) := by
  unfold P.arena_ByRows_1.f cfR
  rw [compare_is, compare_is]
  generalize sgn x.f1 y.f1 = s
  generalize sgn x.f2.f0 y.f2.f0 = t
  rw [Option.bind_some, Option.bind_some, or_is, Option.bind_some]
theorem byrows1 (x y : Cell) (A : Option Addr) (c : Nat) (B : Option Addr) (d : Nat) (W : World) (hl : x.f2.f2.length ≤ c) (hA : Kd.C (Kd.int .i32) W A x.f2.f2.length x.f2.f2) (hm : y.f2.f2.length ≤ d) (hB : Kd.C (Kd.int .i32) W B y.f2.f2.length y.f2.f2) :
    Calls Try.prog 35 (#[cV x A c, cV y B d] ++ #[]) W fun e w' => e = .returned (.int .i64 (cfR x y)) ∧ Below W.heap.size W w' :=
  P.arena_ByRows_1.calls 5 x.f0 x.f1 x.f2.f0 x.f2.f1 A c x.f2.f2 y.f0 y.f1 y.f2.f0 y.f2.f1 B d y.f2.f2 (cfR x y) W hA hl hB hm (byrows_is x y)
end

section
attribute [local go_sem] Oper.semAt_some

theorem FK_boundW {W : World} {ok : Nat → Prop} {x : Cell} {c : List Value} (h : Kd.FK kC W ok x c) : Kd.FK kC W (fun k => ok k ∧ k < W.heap.size) x c :=
  fun W' hm => h W' (fun k hk hlt => hm k ⟨hk, hlt⟩ hlt)
theorem cellsAt_V {W : World} {P0 : Nat → Prop} {A : Option Addr} {c : Nat} {l : List Cell} (h : Kd.V kC 36 W W.heap.size P0 (.slice A l.length c) l) :
    ∃ vA vc, CellsAt W W.heap.size A l vA vc ∧ ∀ k, Kd.FK kC W (fun j => P0 j ∧ j < W.heap.size) (cellAt l k) (cL (cellAt l k) (vA k) (vc k)) := by
  have HF := Kd.V_F h
  have hx : ∀ k : Nat, ∃ p : Option Addr × Nat, (k < l.length → ∃ ad, A = some ad ∧ ad.block < W.heap.size ∧ W.cell? (ad.add (k * 5)) = some (.bool (cellAt l k).f0) ∧ W.cell? ⟨(ad.add (k * 5)).block, (ad.add (k * 5)).off + 1, none⟩ = some (.int .u64 (cellAt l k).f1) ∧ W.cell? ⟨(ad.add (k * 5)).block, (ad.add (k * 5)).off + 2, none⟩ = some (.int .u64 (cellAt l k).f2.f0) ∧ W.cell? ⟨(ad.add (k * 5)).block, (ad.add (k * 5)).off + 3, none⟩ = some (.int .u64 (cellAt l k).f2.f1) ∧ W.cell? ⟨(ad.add (k * 5)).block, (ad.add (k * 5)).off + 4, none⟩ = some (.slice p.1 (cellAt l k).f2.f2.length p.2)) ∧ Kd.FK kC W (fun j => P0 j ∧ j < W.heap.size) (cellAt l k) (cL (cellAt l k) p.1 p.2) := by
    intro k
    by_cases hk : k < l.length
    · obtain ⟨ad, cc, hA, hcl, hK, hcell⟩ := ReadsRow.get_ (Kd.F_rows HF) zC (k : Int) (by omega) (by omega)
      obtain ⟨A4, c4, rfl, _, _⟩ := P.k36_openF hK
      rw [Int.toNat_natCast] at hcell
      have h0 := hcell 0 _ rfl
      have h1 := hcell 1 _ rfl
      have h2 := hcell 2 _ rfl
      have h3 := hcell 3 _ rfl
      have h4 := hcell 4 _ rfl
      have hlt := World.block_lt_of_cell? W _ h0
      rw [block_add] at hlt
      refine ⟨(A4, c4), fun _ => ⟨ad, hA, hlt, h0, ?_, ?_, ?_, ?_⟩, FK_boundW hK⟩
      · rw [← add_field _ _ 1 (by omega)]; exact h1
      · rw [← add_field _ _ 2 (by omega)]; exact h2
      · rw [← add_field _ _ 3 (by omega)]; exact h3
      · rw [← add_field _ _ 4 (by omega)]; exact h4
    · have e : cellAt l k = zC := by
        unfold cellAt P.rd_T36
        rw [Int.toNat_natCast, List.getD_eq_getElem?_getD, List.getElem?_eq_none (by omega)]
        rfl
      rw [e]
      exact ⟨(none, 0), fun h => absurd h hk, P.k36_mkF W _ zC (Nat.le_refl _) (fun W' _ => Kd.C_nil _ _)⟩
  refine ⟨fun k => (Classical.choose (hx k)).1, fun k => (Classical.choose (hx k)).2, ⟨fun k hk => (Classical.choose_spec (hx k)).1 hk, fun k => fk_vec (Classical.choose_spec (hx k)).2⟩, fun k => (Classical.choose_spec (hx k)).2⟩

/-- The used cells. -/
def usedL (l : List Cell) (n : Nat) : List Cell := (usedI l n).map (cellAt l)
def arena_ByRows.f (l : List Cell) : Option (List Cell × Int) := if arenaOk l = true then (if (usedI l l.length).length < 20 then some (insOut cfR 0 (usedI l l.length).length (usedL l l.length), 0) else none) else some ([], 190)
/-- A row of the call's own, whose cells' vectors lay ahead of the call. -/
def NI (w : World) (P0 : Nat → Prop) (W : World) (v : Value) (xs : List Cell) : Prop :=
  ∃ rows : List (List Value), rows.length = xs.length ∧ (Kd.raw 5).R 36 W w.heap.size (fun _ => True) v rows ∧ ∀ (j : Nat) (x : Cell) (c : List Value), xs[j]? = some x → rows[j]? = some c → Kd.FK kC w (fun k => P0 k ∧ k < w.heap.size) x c
theorem NI.nil (w : World) (P0 : Nat → Prop) (W : World) : NI w P0 W (.slice none 0 0) [] := ⟨[], rfl, Kd.R_nil _ _ _ _ _, fun j x c h => by simp at h⟩
theorem NI.step {w : World} {P0 : Nat → Prop} {W W' : World} {v : Value} {xs : List Cell} (h : NI w P0 W v xs) (hm : ∀ k, some k = v.ownBlock → k < W.heap.size → W'.heap[k]? = W.heap[k]?) : NI w P0 W' v xs := by
  obtain ⟨rows, hl, hR, hf⟩ := h
  exact ⟨rows, hl, Kd.raw_any (Kd.R_step (Kd.raw_tight hR) hm), hf⟩
theorem NI.typed {w : World} {P0 : Nat → Prop} {W : World} {v : Value} {xs : List Cell} (h : NI w P0 W v xs) : ∀ k, v.ownBlock = some k → w.heap.size ≤ k ∧ ∃ cells, W.heap[k]? = some (.cells cells 36 (0, 0)) := by
  obtain ⟨rows, hl, hR, hf⟩ := h
  intro k hk
  have hN : Kd.N (Kd.raw 5) 36 W w.heap.size (fun _ => True) v rows := Kd.R_N hR
  exact ⟨Kd.N_base hN k hk, Kd.N_typed hN k hk⟩
theorem NI.toN {w : World} {P0 : Nat → Prop} {W : World} {v : Value} {xs : List Cell} (h : NI w P0 W v xs) (hb : Below w.heap.size w W) : Kd.N kC 36 W w.heap.size (fun k => (P0 k ∧ k < w.heap.size) ∨ some k = v.ownBlock) v xs := by
  have ht := h.typed
  obtain ⟨rows, hl, hR, hf⟩ := h
  refine ⟨fun k hk => .inr hk.symm, rows, hl, Kd.raw_tight hR, fun j x c hx hc => ?_⟩
  exact Kd.FK_mono (Kd.FK_step (hf j x c hx hc) (fun k hk hlt => hb.block k hlt)) (fun k hk => ⟨.inl hk, fun e => by have := (ht k e.symm).1; omega⟩)
theorem NI.own {w : World} {P0 : Nat → Prop} (Bo B : Nat) (hBo : w.heap.size ≤ B) : OwnFrom B (fun (pre : List Cell) W => ∃ v, W.heap[Bo]? = some (.cells #[v] 22 (0, 0)) ∧ NI w P0 W v pre) := by
  rintro s A C row ⟨v, hb, hN⟩ hg hr
  have hne : ∀ k cs T, A.heap[k]? = some (.cells cs T (0, 0)) → row ≠ some k := by
    intro k cs T hk he
    obtain ⟨_, o, ho, hc⟩ := hr k he
    rw [hk] at ho
    injection ho with ho
    subst ho
    cases hc
  refine ⟨v, (hg.block Bo (blk_lt hb) (fun e => hne _ _ _ hb e.symm)).trans hb, hN.step (fun k hk hlt => hg.block k hlt (fun e => ?_))⟩
  obtain ⟨_, cells, hc⟩ := hN.typed k hk.symm
  exact hne _ _ _ hc e.symm
end

end Go.Proofs.Ytoblkjdiahoplaa.G
