/- Contract of arena.Of: the slots of a row, by what begins first. Contract of arena.Of: the walk. -/
import Derived.Test.YtoblkjdiahoplaaB
import Derived.Test.YtoblkjdiahoplaaSi
namespace Go.Proofs.Ytoblkjdiahoplaa.G
open Go.Shelf Go.RowKit Go.Proofs.YtoblkjdiahoplaaW.PrintWords Go.Proofs.YtoblkjdiahoplaaW.PrintLast Go.Proofs.YtoblkjdiahoplaaW.PrintMore
set_option linter.unusedVariables false
set_option linter.unusedSimpArgs false

section
attribute [local go_sem] Oper.semAt_some

theorem info_Int : (Try.prog.info? 3).map (fun i => (i.zero, i.size, i.bytes)) = some (some (.int .i64 0), 1, 8) := by kernel_rfl
/-- Which begins first of the versions in two slots. -/
def cfO (l : List Cell) (x y : Int) : Int := sgn (cellAt l x.toNat).f2.f0 (cellAt l y.toNat).f2.f0
theorem so_O (l : List Cell) : SO (lt_i (cfO l)) := by
  constructor
  · intro x y h
    have h := of_decide_eq_true h
    refine decide_eq_false ?_
    unfold cfO sgn at h ⊢
    grind
  · intro x y z h k
    have h := of_decide_eq_false h
    have k := of_decide_eq_false k
    refine decide_eq_false ?_
    unfold cfO sgn at h k ⊢
    grind
/-- The used slots of a row, in their order. -/
def ofI (l : List Cell) (id : Int) (ks : List Nat) : List Int := (ks.filter (fun k => decide ((cellAt l k).f1 = id))).map (fun (k : Nat) => (k : Int))
def ofL (l : List Cell) (id : Int) : List Int := isort (lt_i (cfO l)) (ofI l id (usedI l l.length))
theorem ofI_snoc (l : List Cell) (id : Int) (ks : List Nat) (k : Nat) : ofI l id (ks ++ [k]) = if (cellAt l k).f1 = id then ofI l id ks ++ [(k : Int)] else ofI l id ks := by
  unfold ofI
  rw [List.filter_append, List.map_append]
  by_cases h : (cellAt l k).f1 = id
  · rw [if_pos h]; simp [h]
  · rw [if_neg h]; simp [h]
theorem ofI_in (l : List Cell) (id : Int) : ∀ x ∈ ofI l id (usedI l l.length), 0 ≤ x ∧ x < (l.length : Int) := by
  intro x hx
  unfold ofI usedI at hx
  rw [List.mem_map] at hx
  obtain ⟨k, hk, rfl⟩ := hx
  have := List.mem_range.mp (List.mem_filter.mp (List.mem_filter.mp hk).1).1
  omega
theorem ofI_len (l : List Cell) (id : Int) (ks : List Nat) : (ofI l id ks).length ≤ ks.length := by
  unfold ofI
  rw [List.length_map]
  exact List.length_filter_le _ _
/-- A row of ints of the call's own. -/
def RI (w : World) (W : World) (v : Value) (xs : List Int) : Prop := Kd.R (Kd.int .i64) 3 W w.heap.size (fun _ => True) v xs
theorem RI.step {w W W' : World} {v : Value} {xs : List Int} (h : RI w W v xs) (hm : ∀ k, some k = v.ownBlock → k < W.heap.size → W'.heap[k]? = W.heap[k]?) : RI w W' v xs :=
  Kd.R_mono (Kd.R_step (Kd.R_tight rfl h) hm) (fun _ _ => trivial)
theorem RI.typed {w W : World} {v : Value} {xs : List Int} (h : RI w W v xs) : ∀ k, v.ownBlock = some k → w.heap.size ≤ k ∧ ∃ cells, W.heap[k]? = some (.cells cells 3 (0, 0)) := fun k hk => ⟨Kd.R_base h k hk, Kd.R_typed h k hk⟩
theorem RI.own {w : World} (l : List Cell) (id : Int) (Bo B : Nat) (hBo : w.heap.size ≤ B) : OwnFrom B (fun (pre : List Nat) W => ∃ v, W.heap[Bo]? = some (.cells #[v] 45 (0, 0)) ∧ RI w W v (ofI l id pre)) := by
  rintro s A C row ⟨v, hb, hN⟩ hg hr
  have hne : ∀ k cs T, A.heap[k]? = some (.cells cs T (0, 0)) → row ≠ some k := by
    intro k cs T hk he
    obtain ⟨_, o, ho, hc⟩ := hr k he
    rw [hk] at ho
    injection ho with ho
    subst ho
    cases hc
  refine ⟨v, (hg.block Bo (blk_lt hb) (fun e => hne _ _ _ hb e.symm)).trans hb, hN.step (fun k hk hlt => hg.block k hlt (fun e => ?_))⟩
  obtain ⟨_, cells, hc⟩ := hN.typed k hk.symm
  exact hne _ _ _ hc e.symm

set_option maxHeartbeats 1000000 in
set_option maxRecDepth 100000 in
/-- The order of two slots. -/
theorem of1 (A0 : Option Addr) (c0 : Nat) (l0 : List Cell) (B : Nat) (x y : Int) (W : World) (hb : W.cell? ⟨B, 0, none⟩ = some (.slice A0 l0.length c0)) (hr : Kd.C kC W A0 l0.length l0) (hx : 0 ≤ x ∧ x < (l0.length : Int)) (hy : 0 ≤ y ∧ y < (l0.length : Int)) :
    Calls Try.prog 48 (#[.int .i64 x, .int .i64 y] ++ #[.pointer (some ⟨B, 0, none⟩)]) W fun e w' => e = .returned (.int .i64 (cfO l0 x y)) ∧ Below W.heap.size W w' := by
  obtain ⟨ad, Ax, cx, hA, x0, x1, x2, x3, x4, _, _⟩ := P.at_T36 hr x hx.1 hx.2
  obtain ⟨bd, Ay, cy, hB, y0, y1, y2, y3, y4, _, _⟩ := P.at_T36 hr y hy.1 hy.2
  obtain ⟨i, rfl⟩ : ∃ i : Nat, x = (i : Int) := ⟨x.toNat, by omega⟩
  obtain ⟨j, rfl⟩ : ∃ j : Nat, y = (j : Int) := ⟨y.toNat, by omega⟩
  subst hA
  injection hB with hB
  subst hB
  simp only [Int.toNat_natCast] at x2 y2
  have hcf : cfO l0 (i : Int) (j : Int) = sgn (P.rd_T36 l0 (i : Int)).f2.f0 (P.rd_T36 l0 (j : Int)).f2.f0 := rfl
  rw [hcf]
  clear hcf x0 x1 x3 x4 y0 y1 y3 y4 hr
  generalize (P.rd_T36 l0 (i : Int)).f2.f0 = u at *
  generalize (P.rd_T36 l0 (j : Int)).f2.f0 = v at *
  have HC := Aside0.mk (fun (p : Gr W) => (P.cmp_Compare_uint64.calls u v (sgn u v) p.w (compare_is u v)).mono (fun e w' h => (⟨h.1, h.2.below⟩ : e = .returned (.int .i64 (sgn u v)) ∧ Below p.w.heap.size p.w w')))
  have hx2 := hx.2
  have hy2 := hy.2
  have Q0 := fun p => Gr.cell hb p
  have Q1 := fun p => Gr.cell x2 p
  have Q2 := fun p => Gr.cell y2 p
  clear hx hy
  generalize sgn u v = s at *
  go_enter Try.func48, Try.ntmps48
  go_wp2_with fail
  refine wp_region_gr (by kernel_rfl) (by kernel_rfl) ?_
  repeat (quiet_step ((go_at_call 37; exact Calls.gr_of (HC.out _))))
  refine wpQuiet_nil ?_
  intro w3 hw'
  have hb3 : Below W.heap.size W w3 := by obtain ⟨p, rfl⟩ := hw'; exact p.h
  have HB3 := Aside0.mk hb3
  clear hw' hb3 Q0 Q1 Q2 x2 y2 hb
  go_wp2_with fail
  go_returns
  exact ⟨rfl, HB3.out⟩
end

section
attribute [local go_sem] Oper.semAt_some

theorem CellsAt.mono {W : World} {n₀ n₁ : Nat} {A : Option Addr} {l : List Cell} {vA : Nat → Option Addr} {vc : Nat → Nat} (h : CellsAt W n₀ A l vA vc) (hn : n₀ ≤ n₁) : CellsAt W n₁ A l vA vc :=
  ⟨fun k hk => by
    obtain ⟨ad, e, h0, h1⟩ := h.at_ k hk
    exact ⟨ad, e, Nat.lt_of_lt_of_le h0 hn, h1⟩, h.vec⟩
theorem int1_new (W : World) (k : Nat) : ∀ j u, [Value.int .i64 (k : Int)][j]? = some u → (W.alloc (.cells [Value.int .i64 (k : Int)].toArray 3)).cell? ((⟨W.heap.size, 0, none⟩ : Addr).add j) = some u := by
  intro j u h
  rw [add_plain, blk_cell (heap_alloc_new W _)]
  simpa using h
theorem int_one (k : Nat) : ∀ u ∈ [Value.int .i64 (k : Int)], u.oneCell' = true := by
  intro u hu
  rw [List.mem_singleton.mp hu]
  rfl
set_option maxHeartbeats 1000000 in
set_option maxRecDepth 100000 in
theorem ins0 (v : Value) (fv : Value) (w : World) :
    Calls Try.prog 66 #[v, .int .i64 0, .int .i64 0, fv] w fun e w' => e = .returned (.tuple #[]) ∧ w = w' := by
  go_enter Try.func66, Try.ntmps66
  go_wp2_with fail
  refine wp_loop_rounds 1 ?_
  rw [rounds_succ]
  go_wp2_with fail
  go_end0
  exact ⟨rfl, rfl⟩
set_option maxHeartbeats 1000000 in
set_option maxRecDepth 100000 in
theorem stable0 (v : Value) (fv : Value) (w : World) :
    Calls Try.prog 61 #[v, .int .i64 0, fv] w fun e w' => e = .returned (.tuple #[]) ∧ w = w' := by
  have HH := Aside0.mk (ins0 v fv w)
  go_enter Try.func61, Try.ntmps61
  go_wp2_with fail
  refine wp_loop_rounds 1 ?_
  rw [rounds_succ]
  go_wp2_with fail
  refine HH.out.mono ?_
  rintro e w1 ⟨rfl, rfl⟩
  go_wp2_with fail
  refine wp_loop_rounds 1 ?_
  rw [rounds_succ]
  go_wp2_with fail
  go_end0
  exact ⟨rfl, rfl⟩
set_option maxHeartbeats 1000000 in
set_option maxRecDepth 100000 in
theorem sort0 (A : Option Addr) (c : Nat) (fv : Value) (w : World) :
    Calls Try.prog 47 #[.slice A 0 c, fv] w fun e w' => e = .returned (.tuple #[]) ∧ w = w' := by
  have HH := Aside0.mk (stable0 (.slice A 0 c) fv w)
  go_enter Try.func47, Try.ntmps47
  go_wp2_with fail
  refine HH.out.mono ?_
  rintro e w1 ⟨rfl, rfl⟩
  go_wp2_with fail
  go_end0
  exact ⟨rfl, rfl⟩
theorem N_int_tight {W : World} {base : Nat} {ok : Nat → Prop} {v : Value} {xs : List Int} (h : Kd.N (Kd.int .i64) 3 W base ok v xs) : Kd.N (Kd.int .i64) 3 W base (fun k => some k = v.ownBlock) v xs := by
  obtain ⟨h0, rows, hl, hR, hf⟩ := h
  refine ⟨fun k hk => hk.symm, rows, hl, hR, fun j x c hx hc W' _ => ?_⟩
  exact (show (Kd.int .i64).K W' x c from (Kd.FK_now (hf j x c hx hc) : (Kd.int .i64).K W x c))
def arena_Of.f (l : List Cell) (id : Int) : List Int × Int := if arenaOk l = true then (ofL l id, 0) else ([], 190)

set_option maxRecDepth 100000 in
set_option maxHeartbeats 1000000 in
theorem arena_Of.calls (A0 : Option Addr) (c0 : Nat) (l0 : List Cell) (id : Int) (r1 : List Int) (r2 : Int) (w : World) (hr0 : Kd.C kC w A0 l0.length l0) (hc0 : l0.length ≤ c0) (h : arena_Of.f l0 id = (r1, r2)) :
    Calls Try.prog 23 #[.agg #[.slice A0 l0.length c0], .int .u64 id] w fun e w' => ∃ A c, e = .returned (.tuple #[.slice A r1.length c, .int .i64 r2]) ∧ r1.length ≤ c ∧ Kd.C (Kd.int .i64) w' A r1.length r1 ∧ Below w.heap.size w w' := by
  obtain ⟨w1, hw1⟩ : ∃ w1, w1 = (w.alloc (.cells #[.slice A0 l0.length c0] 26)).alloc (.cells #[.int .u64 id] 31) := ⟨_, rfl⟩
  have hsz : (w.alloc (.cells #[.slice A0 l0.length c0] 26)).heap.size = w.heap.size + 1 := by simp
  have HB1 := Aside0.mk (show Below w.heap.size w w1 by rw [hw1]; exact ((Below.refl _ _).alloc (Nat.le_refl _) _).alloc (by simp) _)
  have hblk : w1.heap[w.heap.size]? = some (.cells #[.slice A0 l0.length c0] 26 (0, 0)) := by rw [hw1]; exact (Below.heap_alloc _ _ _ (by simp)).trans (heap_alloc_new w _)
  have hblk2 : w1.heap[w.heap.size + 1]? = some (.cells #[.int .u64 id] 31 (0, 0)) := by rw [hw1, ← hsz]; exact heap_alloc_new _ _
  have HBK := Aside0.mk hblk
  have HBK2 := Aside0.mk hblk2
  have q0 : w1.cell? ⟨w.heap.size, 0, none⟩ = some (.slice A0 l0.length c0) := (blk_cell hblk 0).trans rfl
  have HCK := Aside0.mk (arena_Check.calls A0 c0 l0 (if arenaOk l0 = true then 0 else 190) w1 (Kd.C_below hr0 HB1.out) hc0 rfl)
  have HW := Aside0.mk hw1
  have hm := Kd.C_max hr0
  have HR0 := Aside0.mk hr0
  unfold arena_Of.f at h
  cases hok : arenaOk l0 with
  | false =>
    rw [hok] at HCK h
    rw [if_neg (by decide)] at HCK h
    simp only [Prod.mk.injEq] at h
    obtain ⟨rfl, rfl⟩ := h
    clear hblk hblk2 hw1 hr0 hc0 hok hsz
    go_enter Try.func23, Try.ntmps23
    go_upto_region 1 with (fail)
    rw [← HW.out]
    go_wp2_with fail
    refine HCK.out.mono ?_
    rintro e w2 ⟨rfl, hd⟩
    have HB := Aside0.mk (below_step HB1.out hd)
    clear hd
    go_wp2_with fail
    go_returns
    exact ⟨none, 0, rfl, Nat.le_refl _, Kd.C_nil _ _, HB.out⟩
  | true =>
    rw [hok] at HCK h
    rw [if_pos rfl] at HCK h
    simp only [Prod.mk.injEq] at h
    obtain ⟨rfl, rfl⟩ := h
    have hl96 : l0.length = 96 := by
      unfold arenaOk at hok
      rw [Bool.and_eq_true] at hok
      exact of_decide_eq_true hok.1
    have HL := Aside0.mk hl96
    obtain ⟨vA, vc, hcs⟩ := cellsAt_of hr0
    have HCS := Aside0.mk hcs
    clear hblk hblk2 hr0 hc0 hok hl96 hcs HW hsz
    subst hw1
    refine (callsIn_wide (n := 3)).1 ?_
    refine callsIn_of_wp_marks Try.func23 rfl trivial ?_ rfl
    simp only [Try.ntmps23, List.size_toArray, List.length_cons, List.length_nil, Nat.reduceAdd, Nat.reduceSub, Array.replicate_succ, Array.replicate_zero, List.push_toArray, List.append_toArray, List.nil_append, List.cons_append]
    gi_wp2_with (first
      | (refine ⟨trivial, ?_⟩; gi_at_call 33; refine (used_in Fence.wide 2 trivial rfl _ _ _ _).mono ?_; rintro e w3 ⟨rfl, rfl⟩)
      | (refine ⟨trivial, ?_⟩; gi_at_call 19; refine (callsIn_wide.2 HCK.out).mono ?_; rintro e w2 ⟨rfl, hd⟩; have HB2 := Aside0.mk (below_step HB1.out hd); have HBX := Aside0.mk (blk_below HBK.out hd); have HBY := Aside0.mk (blk_below HBK2.out hd); have q2 : w2.cell? ⟨w.heap.size, 0, none⟩ = some (.slice A0 l0.length c0) := (blk_cell (blk_below HBK.out hd) 0).trans rfl; have hz : w.heap.size < w2.heap.size := (by have := hd.size; simp at this; omega); have hz1 : w.heap.size + 1 < w2.heap.size := (by have := hd.size; simp at this; omega); clear hd))
    have bO : ((w2.alloc (.cells #[.slice none 0 0] 45)).alloc (.cells #[.slice A0 l0.length c0] 26)).heap[w2.heap.size]? = some (.cells #[.slice none 0 0] 45 (0, 0)) := (Below.heap_alloc _ _ _ (by simp)).trans (heap_alloc_new w2 _)
    have b1 := Boxed.new (w2.alloc (.cells #[.slice none 0 0] 45)) 26 (.slice A0 l0.length c0)
    simp only [World.size_alloc] at b1
    have hB0 : Below w.heap.size w ((w2.alloc (.cells #[.slice none 0 0] 45)).alloc (.cells #[.slice A0 l0.length c0] 26)) := (HB2.out.alloc (by omega) _).alloc (by simp; omega) _
    have hsz : ((w2.alloc (.cells #[.slice none 0 0] 45)).alloc (.cells #[.slice A0 l0.length c0] 26)).heap.size = w2.heap.size + 2 := by simp
    have hbx0 : ((w2.alloc (.cells #[.slice none 0 0] 45)).alloc (.cells #[.slice A0 l0.length c0] 26)).heap[w.heap.size]? = some (.cells #[.slice A0 l0.length c0] 26 (0, 0)) := (Below.heap_alloc _ _ _ (by simp; omega)).trans ((Below.heap_alloc _ _ _ (by omega)).trans HBX.out)
    have hbx1 : ((w2.alloc (.cells #[.slice none 0 0] 45)).alloc (.cells #[.slice A0 l0.length c0] 26)).heap[w.heap.size + 1]? = some (.cells #[.int .u64 id] 31 (0, 0)) := (Below.heap_alloc _ _ _ (by simp; omega)).trans ((Below.heap_alloc _ _ _ (by omega)).trans HBY.out)
    obtain ⟨W0, hW0⟩ : ∃ W0, ((w2.alloc (.cells #[.slice none 0 0] 45)).alloc (.cells #[.slice A0 l0.length c0] 26)) = W0 := ⟨_, rfl⟩
    rw [hW0] at b1 bO hB0 hsz hbx0 hbx1 ⊢
    clear hW0
    have HX0 := Aside0.mk hbx0
    have HX1 := Aside0.mk hbx1
    clear hbx0 hbx1
    refine wpIn_rangeFunc_ownH rfl (show 1 ≤ 3 by decide) (gf := 54) (lb := #[.pointer (some ⟨w2.heap.size + 1, 0, none⟩)]) rfl trivial (enters_of Try.func54 (by kernel_rfl) rfl)
      (used_stops Fence.wide 2 trivial rfl (by decide) (w2.heap.size + 1) w2.heap.size A0 c0 l0 vA vc W0 hm (by omega) (by omega) b1.cell (CellsAt.mono (HCS.out.below hB0) (by omega))) (fun h k => h.trans k) (belowK_b (by omega)) (Below.refl _ _) (fun _ => rfl)
      (fun pre W => (∃ v, W.heap[w2.heap.size]? = some (.cells #[v] 45 (0, 0)) ∧ RI w2 W v (ofI l0 id pre)) ∧ Below w2.heap.size W0 W)
      (fun _ _ _ => False)
      (OwnFrom.and (fun s => RI.own l0 id w2.heap.size W0.heap.size (by omega) s) (ownFrom_below (by omega) (by omega)))
      (fun _ _ _ _ _ hs _ _ => hs)
      ⟨⟨_, bO, Kd.R_nil _ _ _ _ _⟩, Below.refl _ _⟩
      (fun k a' W => ∃ Bx, w2.heap.size < Bx ∧ W.heap[Bx]? = some (.cells (cL (cellAt l0 k) (vA k) (vc k)).toArray 36 (0, 0)) ∧ a' = { tmps := #[.agg #[.slice A0 l0.length c0], .int .u64 id, .pointer (some ⟨w.heap.size, 0, none⟩), .pointer (some ⟨w.heap.size + 1, 0, none⟩), .slice none 0 0, .int .i64 0, .int .i64 0, .pointer (some ⟨w2.heap.size, 0, none⟩), .int .i64 (k : Int), .pointer (some ⟨Bx, 0, none⟩), .agg #[.slice A0 l0.length c0], .int .i64 0, .int .i64 0, .bool false, undef, .agg #[.slice A0 l0.length c0], .func (.func 54) #[] #[.pointer (some ⟨w2.heap.size + 1, 0, none⟩)], .int .i64 (k : Int), cellV (cellAt l0 k) (vA k) (vc k), undef, undef, undef, undef, undef, undef, undef, undef, undef, undef, undef, undef], defers := [] })
      (fun k a' _ X Y row hs hg hr => by
        obtain ⟨Bx, e1, e2, e3⟩ := hs
        exact ⟨Bx, e1, (hg.block Bx (blk_lt e2) (fun e => by
          obtain ⟨_, o, ho, hc⟩ := hr Bx e.symm
          rw [e2] at ho
          injection ho with ho
          subst ho
          cases hc)).trans e2, e3⟩)
      ?assign ?body ?done ?stop
    case assign =>
      rintro y pre k W K ⟨⟨v, hb, hN⟩, hB⟩ hK
      generalize cellAt l0 k = x at *
      gi_wp2
      exact hK _ _ ((KeepsOthers.alloc _ _).from _) ((Below.refl _ W).alloc (by have := hB.size; omega) _) ⟨⟨v, (Below.heap_alloc W _ _ (blk_lt hb)).trans hb, hN.step (fun j hj hlt => Below.heap_alloc W _ j hlt)⟩, hB.alloc (by have := hB.size; omega) _⟩ ⟨W.heap.size, blk_lt hb, heap_alloc_new W _, rfl⟩
    case body =>
      rintro y pre k a' W hl ⟨r, hr⟩ ⟨⟨v, hb, hN⟩, hB⟩ ⟨Bx, hBx, hbx, rfl⟩ hlt
      have hty := hN.typed
      have hlen : (ofI l0 id pre).length < 96 := by have := ofI_len l0 id pre; have := HL.out; omega
      have HOS := Aside0.mk (ofI_snoc l0 id pre k)
      generalize cellAt l0 k = x at *
      have q5 : W.cell? ⟨w2.heap.size, 0, none⟩ = some v := (blk_cell hb 0).trans rfl
      have x1 : W.cell? ⟨Bx, 1, none⟩ = some (.int .u64 x.f1) := (blk_cell hbx 1).trans rfl
      have qi : W.cell? ⟨w.heap.size + 1, 0, none⟩ = some (.int .u64 id) := (blk_cell ((hB.block _ (by omega)).trans HX1.out) 0).trans rfl
      have HB := Aside0.mk hb
      have HTY := Aside0.mk hty
      have HN := Aside0.mk hN
      by_cases hid : x.f1 = id
      · have hidb : (x.f1 == id) = true := by rw [hid]; simp
        rw [if_pos hid] at HOS
        subst hid
        obtain ⟨_, inner, hown, hreps⟩ := hN
        have HREPS := Aside0.mk hreps
        obtain ⟨i0, hi, hz0, hz1, hz2⟩ := info_parts info_Int
        clear hb hty hbx hreps hr
        gi_wp2_with (gi_at_builtin; refine wpListIn_append_own _ rfl _ _ 45 rfl w2.heap.size 3 i0 (.int .i64 0) 1 8 Try.underlying45 hi hz0 hz1 hz2 rfl (by decide) _ _ _ rfl (hown.alloc _) ⟨W.heap.size, 0, none⟩ 1 1 [.int .i64 (k : Int)] rfl rfl (int1_new W k) (int_one k) (by unfold maxLen; omega) (by omega) (by have := hB.size; simp; omega) ?_; intro v' w1' hown' hgrow _; obtain ⟨g', cap', rfl⟩ := ownsRow_succ hown'; have HOWN := Aside0.mk hown'; have HGR := Aside0.mk hgrow; have hb1 : w1'.heap[w2.heap.size]? = some (.cells #[v] 45 (0, 0)) := (hgrow.block _ (by have := blk_lt HB.out; simp; omega) (fun e => by obtain ⟨_, cells, hc⟩ := HTY.out _ e.symm; rw [HB.out] at hc; injection hc with hc; injection hc with _ hc _; exact absurd hc (by decide))).trans ((Below.heap_alloc W _ _ (blk_lt HB.out)).trans HB.out); have c1 : w1'.cell? ⟨w2.heap.size, 0, none⟩ = some v := (blk_cell hb1 0).trans rfl; have f1 : w1'.frozen? ⟨w2.heap.size, 0, none⟩ = false := blk_frozen hb1 0; have HB1' := Aside0.mk hb1; clear hb1 hgrow hown')
        have hNI1 : RI w2 w1' (.slice (some ⟨g', 0, none⟩) ((ofI l0 x.f1 pre).length + 1) cap') (ofI l0 x.f1 pre ++ [(k : Int)]) := by
          refine ⟨fun _ _ => trivial, inner ++ [.int .i64 (k : Int)], ?_, ?_⟩
          · rw [List.length_append]; exact HOWN.out
          · exact Reps.snoc HREPS.out rfl rfl
        have hty1 := hNI1.typed g' (by simp [Value.ownBlock])
        have hgb : g' ≠ w2.heap.size := fun e => by
          obtain ⟨_, cells, hc⟩ := hty1
          rw [e, HB1'.out] at hc
          injection hc with hc
          injection hc with _ hc _
          exact absurd hc (by decide)
        have hcut : ∀ j, j < W.heap.size → some j ≠ v.ownBlock → j ≠ w2.heap.size → (w1'.setCell ⟨w2.heap.size, 0, none⟩ (.slice (some ⟨g', 0, none⟩) ((ofI l0 x.f1 pre).length + 1) cap')).heap[j]? = W.heap[j]? := fun j hj hne hb =>
          (Below.heap_setCell w1' ⟨w2.heap.size, 0, none⟩ _ j hb).trans ((HGR.out.block j (by simp; omega) hne).trans (Below.heap_alloc W _ j hj))
        have hBK : Below w2.heap.size W (w1'.setCell ⟨w2.heap.size, 0, none⟩ (.slice (some ⟨g', 0, none⟩) ((ofI l0 x.f1 pre).length + 1) cap')) :=
          ⟨HGR.out.os, HGR.out.tape, HGR.out.output, by have := HGR.out.size; simp at this ⊢; omega, fun j hj => hcut j (by have := hB.size; omega) (fun e => by have := (HTY.out j e.symm).1; omega) (by omega)⟩
        refine ⟨⟨by have := HGR.out.size; simp at this ⊢; omega, fun j o hj ho hc => (hcut j (Array.getElem?_eq_some_iff.1 ho).1 (fun e => by
          obtain ⟨_, cells, hcc⟩ := HTY.out j e.symm
          rw [ho] at hcc
          injection hcc with hcc
          subst hcc
          cases hc) (by omega)).trans ho⟩, hBK, ⟨⟨_, by simpa using blk_set HB1'.out 0 (.slice (some ⟨g', 0, none⟩) ((ofI l0 x.f1 pre).length + 1) cap'), ?_⟩, hB.trans hBK⟩⟩
        rw [HOS.out]
        exact hNI1.step (fun j hj _ => Below.heap_setCell w1' ⟨w2.heap.size, 0, none⟩ _ j (fun e => hgb (by simp [Value.ownBlock] at hj; rw [← hj]; exact e)))
      · have hidb : (x.f1 == id) = false := by rw [beq_eq_false_iff_ne]; exact hid
        rw [if_neg hid] at HOS
        clear hb hty hbx hr hN
        gi_wp2
        exact ⟨⟨Nat.le_refl _, fun j o hj ho hc => ho⟩, Below.refl _ _, ⟨⟨v, HB.out, by rw [HOS.out]; exact HN.out⟩, hB⟩⟩
    case done =>
      rintro D ys W hD rfl ⟨⟨v, hb, hN⟩, hB⟩ hK
      have hNN : Kd.N (Kd.int .i64) 3 W w2.heap.size (fun _ => True) v (ofI l0 id (usedI l0 l0.length)) := Kd.R_N hN
      have q5 : W.cell? ⟨w2.heap.size, 0, none⟩ = some v := (blk_cell hb 0).trans rfl
      obtain ⟨A5, c5, rfl, hl5, _⟩ := Kd.N_reads hNN
      have hwB : Below w.heap.size w W := hB0.trans (hB.mono (by omega))
      have hS : Calls Try.prog 47 #[.slice A5 (ofI l0 id (usedI l0 l0.length)).length c5, .func (.func 48) #[] #[.pointer (some ⟨w.heap.size, 0, none⟩)]] W fun e w' => e = .returned (.tuple #[]) ∧ (Kd.N (Kd.int .i64) 3 w' w2.heap.size (fun _ => True) (.slice A5 (ofI l0 id (usedI l0 l0.length)).length c5) (ofL l0 id) ∧ Fr (fun j => some j = (Value.slice A5 (ofI l0 id (usedI l0 l0.length)).length c5).ownBlock) W w') := by
        have hin := ofI_in l0 id
        have hle := ofI_len l0 id (usedI l0 l0.length)
        have hle2 := usedI_len l0 l0.length
        have hl96 := HL.out
        have hcell : W.cell? ⟨w.heap.size, 0, none⟩ = some (.slice A0 l0.length c0) := (blk_cell ((hB.block _ (by omega)).trans HX0.out) 0).trans rfl
        have hrW : Kd.C kC W A0 l0.length l0 := Kd.C_below HR0.out hwB
        have hof : ofL l0 id = isort (lt_i (cfO l0)) (ofI l0 id (usedI l0 l0.length)) := rfl
        rw [hof]
        generalize ofI l0 id (usedI l0 l0.length) = xs at *
        by_cases h0 : xs.length = 0
        · have : xs = [] := List.length_eq_zero_iff.mp h0
          subst this
          refine (sort0 A5 c5 _ W).mono ?_
          rintro e w' ⟨rfl, rfl⟩
          exact ⟨rfl, hNN, Fr.refl _ _⟩
        · obtain ⟨g, cap, he, hg1, hg2, _⟩ := Kd.N_form hNN (by omega)
          injection he with he1 _ he3
          subst he1
          subst he3
          refine (sortst_i g xs.length _ (fun x => 0 ≤ x ∧ x < (l0.length : Int)) ⟨by omega, by omega⟩ _ #[.pointer (some ⟨w.heap.size, 0, none⟩)] (cfO l0) w2.heap.size _ W (by omega) (enters_of Try.func48 (by kernel_rfl) rfl) (fun x y W' hx hy hfr => of1 A0 c0 l0 w.heap.size x y W' (hfr.cell hcell (by show w.heap.size ≠ g; omega)) (Kd.F_now (Kd.F_step (Kd.C_F P.k36_heap HR0.out) (fun k hk _ => (hfr.block (by have := hwB.size; omega) (show ¬ k = g by omega)).trans (hwB.block k hk)))) hx hy) (so_O l0) xs hin W hNN (Fr.refl _ _) rfl).mono ?_
          rintro e w' ⟨rfl, hN', hF'⟩
          exact ⟨rfl, hN', hF'.mono (fun j hj => by subst hj; simp [Value.ownBlock])⟩
      have HS := Aside0.mk hS
      have hnt := hN.typed
      have HNT := Aside0.mk hnt
      have HWB := Aside0.mk hwB
      clear hS hnt hwB
      gi_wp2_with (refine ⟨trivial, ?_⟩; gi_at_call 47; refine (callsIn_wide.2 HS.out).mono ?_; rintro e W5 ⟨rfl, hN5, hF5⟩; have HN5 := Aside0.mk hN5; have HF5 := Aside0.mk hF5; have q6 : W5.cell? ⟨w2.heap.size, 0, none⟩ = some (.slice A5 (ofI l0 id (usedI l0 l0.length)).length c5) := (blk_cell (hF5.blk hb (fun e => by obtain ⟨_, cells, hc⟩ := HNT.out _ e.symm; rw [hb] at hc; injection hc with hc; injection hc with _ hc _; exact absurd hc (by decide))) 0).trans rfl; clear hN5 hF5)
      have hD5 : W5.heap[D]? = some (.deferred (some [])) := HF5.out.blk hK (fun e => by
        obtain ⟨_, cells, hc⟩ := HNT.out D e.symm
        rw [hK] at hc
        injection hc with hc
        cases hc)
      have hB5 : Below w.heap.size w W5 := HWB.out.trans (HF5.out.toBelow HWB.out.size (fun j hj => by have := (HNT.out j hj.symm).1; omega))
      refine ⟨by simp, .inl ⟨_, _, rfl, run_takeDeferred hD5, ?_⟩⟩
      have hlo : (ofL l0 id).length = (ofI l0 id (usedI l0 l0.length)).length := isort_len _
      rw [← hlo] at HN5 ⊢
      have hkeep : ∀ k, some k = (Value.slice A5 (ofL l0 id).length c5).ownBlock → k < W5.heap.size → (W5.putObj D (.deferred none)).heap[k]? = W5.heap[k]? := fun k hk hlt => (grownBy_putObj' W5 D (.deferred none)).block k hlt (fun e => by
        injection e with e
        subst e
        obtain ⟨cells, hc⟩ := Kd.N_typed HN5.out k hk.symm
        rw [hD5] at hc
        injection hc with hc
        cases hc)
      have hN6 : Kd.N (Kd.int .i64) 3 (W5.putObj D (.deferred none)) w2.heap.size (fun k => some k = (Value.slice A5 (ofL l0 id).length c5).ownBlock) (.slice A5 (ofL l0 id).length c5) (ofL l0 id) := Kd.N_step (N_int_tight HN5.out) hkeep
      exact ⟨_, results_tmp2 rfl _ _ _, A5, c5, rfl, (Kd.N_reads' hN6).2.1, (Kd.N_reads' hN6).2.2, hB5.trans (belowK_b (w := w) (Nat.le_refl _) W5 D _ _ (by omega) hD5 rfl rfl)⟩
    case stop =>
      rintro D c pre W _ _ h _
      exact h.elim
end

end Go.Proofs.Ytoblkjdiahoplaa.G
