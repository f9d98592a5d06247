/- An element laid into a row at a place, by two appends that both make new memory (append(l[:p:p], append([]T.x, l[p:]...)...)): what runs, and what lies there. No program's text is spoken of. Contract of quiverref09.ByRows. -/
import Derived.Test.YtoblkjdiahoplaaA3
import Derived.Deep.Upon
import Derived.Deep.RegionLaw
import Derived.Test.YtoblkjdiahoplaaB3
import Derived.Test.YtoblkjdiahoplaaPr
import Derived.BigQuiet
namespace Go.Proofs.Ytoblkjdiahoplaa.G
open Go.Shelf Go.RowKit Go.Lib Go.Proofs.YtoblkjdiahoplaaW.PrintWords Go.Proofs.YtoblkjdiahoplaaW.PrintLast Go.Proofs.YtoblkjdiahoplaaW.PrintMore
set_option linter.unusedVariables false
set_option linter.unusedSimpArgs false

section
theorem step_append_run {P : Program} {ops : Array Oper} {o : Oper} {a : Act} {w : World} {K : Act → World → Prop} {Q : Exit → Act → World → Prop} {E : Prop}
    (hg : o.guard = none) (s x : Operand) (t : TypeId) (hop : o.op = Op.call { callee := Callee.builtin Builtin.append, args := #[s, x], argTypes := #[t, t] })
    (vs vx v : Value) (w1 : World) (hs : a.eval s = vs) (hx : a.eval x = vx)
    (hrun : (Builtin.append_ #[t, t] o.type #[vs, vx]).run P w = .ok v w1)
    (hK : K (a.put o.dst v) w1) :
    if Region.wanted o (yielded ops a.tmps) = true then Oper.wp P o a w K Q else E := by
  have hw : Region.wanted o (yielded ops a.tmps) = true := by simp [Region.wanted, hg]
  rw [if_pos hw]
  unfold Oper.wp
  simp [execOp, hop, resolve, invoke, builtin, hs, hx, hrun, Result.andThen]
  exact hK
theorem ins_run {α : Type} (d : Kd α) (hs0 : 0 < d.sz) {P : Program} (t ty e : TypeId) (i : TypeInfo) (z : Value) (ht : P.underlying t = some (.slice e)) (hi : P.info? e = some i) (hz : i.zero = some z) (hsz : i.size = d.sz) (hby : i.bytes ≤ 56)
    (l : List α) (x : α) (cs : List Value) (W : World) (A : Option Addr) (p : Nat) (hC : Kd.C d W A l.length l) (hx : d.K W x cs) (hp : p ≤ l.length) (hl : l.length ≤ 200) (T : Option Addr) (c' : Nat) (hT : p < l.length → ∃ ad, A = some ad ∧ T = some (ad.add (p * d.sz))) :
    ∃ A2 c2 w2 A3 c3 w3, (Builtin.append_ #[t, t] ty #[.slice (some ⟨W.heap.size, 0, none⟩) 1 1, .slice T (l.length - p) c']).run P (W.alloc (.cells cs.toArray e)) = .ok (.slice (some A2) (1 + (l.length - p)) c2) w2 ∧
      (Builtin.append_ #[t, t] ty #[.slice A p p, .slice (some A2) (1 + (l.length - p)) c2]).run P w2 = .ok (.slice (some A3) (l.length + 1) c3) w3 ∧ Below W.heap.size W w3 ∧ Kd.C d w3 (some A3) (l.length + 1) (l.take p ++ x :: l.drop p) ∧ l.length + 1 ≤ c3 := by
  obtain ⟨fl, hr, hcell⟩ : ∃ fl, Reps (d.K W) d.sz l fl ∧ (∀ ad, A = some ad → ∀ j u, fl[j]? = some u → W.cell? (ad.add j) = some u) := by
    cases A with
    | none =>
      have h0 : l = [] := by
        rcases Nat.eq_zero_or_pos l.length with h0 | h0
        · exact List.length_eq_zero_iff.mp h0
        · obtain ⟨ad, e, _⟩ := hC.2.2 h0
          cases e
      subst h0
      exact ⟨[], Reps.none _ _, fun ad h => by cases h⟩
    | some ad =>
      obtain ⟨inner, h1, h2⟩ := ReadsRow.inner_ hC
      exact ⟨inner, h1, fun ad' he => by injection he with he; subst he; exact h2⟩
  have h1 : ∀ u ∈ fl, u.oneCell' = true := Kd.reps_one hr hs0 (fun _ _ h => d.K_one h)
  have hcl : cs.length = d.sz := d.K_len hx
  have hc1 := d.K_one hx
  have hfl : fl.length = l.length * d.sz := hr.1
  have htl : (fl.drop (p * d.sz)).length = (l.length - p) * d.sz := by rw [List.length_drop, hfl, Nat.sub_mul]
  have hmul : p * d.sz ≤ l.length * d.sz := Nat.mul_le_mul_right _ hp
  have htk : (fl.take (p * d.sz)).length = p * d.sz := by rw [List.length_take, hfl]; omega
  obtain ⟨W1, hW1⟩ : ∃ W1, W1 = W.alloc (.cells cs.toArray e) := ⟨_, rfl⟩
  have hb1 : Below W.heap.size W W1 := by rw [hW1]; exact (Below.refl _ _).alloc (Nat.le_refl _) _
  have hnew : ∀ j u, cs[j]? = some u → W1.cell? ((⟨W.heap.size, 0, none⟩ : Addr).add j) = some u := by
    intro j u h
    rw [hW1, add_plain, blk_cell (heap_alloc_new W _)]
    simpa using h
  have keep : ∀ {V V' : World}, Below V.heap.size V V' → ∀ {a : Addr} {u : Value}, V.cell? a = some u → V'.cell? a = some u := fun {V V'} hb {a} {u} h => (hb.cell (World.block_lt_of_cell? _ _ h)).trans h
  have hkd : ∀ V : World, Below V.heap.size V V.drew := fun V => ⟨rfl, rfl, rfl, Nat.le_refl _, fun _ _ => rfl⟩
  have hmb : ∀ k, k ≤ 201 → k * i.bytes ≤ 140737488355328 := fun k hk => by
    have : k * i.bytes ≤ 201 * 56 := Nat.mul_le_mul hk hby
    omega
  rw [← hW1]
  obtain ⟨A2, c2, w2, hrun2, hb2, hcel2⟩ : ∃ A2 c2 w2, (Builtin.append_ #[t, t] ty #[.slice (some ⟨W.heap.size, 0, none⟩) 1 1, .slice T (l.length - p) c']).run P W1 = .ok (.slice (some A2) (1 + (l.length - p)) c2) w2 ∧ Below W1.heap.size W1 w2 ∧ ∀ j u, (cs ++ fl.drop (p * d.sz))[j]? = some u → w2.cell? (A2.add j) = some u := by
    by_cases hq : p < l.length
    · obtain ⟨ad, hA, hTe⟩ := hT hq
      subst hTe
      have hsrc : Src P i.size t (.slice (some (ad.add (p * d.sz))) (l.length - p) c') (l.length - p) (fl.drop (p * d.sz)) W1 := Src.ofSlice W1 ht (ad.add (p * d.sz)) (l.length - p) c' _ (by rw [hsz]; exact htl) (fun j u h => by
        rw [List.getElem?_drop] at h
        rw [Addr.add_add]
        exact keep hb1 (hcell ad hA _ u h)) (fun u hu => h1 u (List.drop_subset _ _ hu))
      have hrun := run_append_grow_src (P := P) W1 t t ty e i z ht hi hz (some ⟨W.heap.size, 0, none⟩) 1 1 cs (run_firstCells_some (P := P) W1.drew i.size 1 ⟨W.heap.size, 0, none⟩ 1 1 cs (by rw [hsz, Nat.one_mul]; exact hcl) (fun j u h => keep (hkd W1) (hnew j u h))) _ (l.length - p) _ hsrc (by omega) (by omega) (growslice_fits (by omega) (hmb _ (by omega)))
      refine ⟨_, _, _, hrun, ⟨rfl, rfl, rfl, by simp, fun k hk => Below.heap_alloc W1.drew _ k hk⟩, fun j u h => ?_⟩
      rw [add_plain]
      have e1 := World.cell?_alloc_new W1.drew ((cs ++ fl.drop (p * d.sz)).toArray ++ Builtin.zeroCells z.cells (grownCap W1 (1 + (l.length - p)) 1 e - (1 + (l.length - p)))) e j
      refine e1.trans ?_
      have hj := (List.getElem?_eq_some_iff.1 h).1
      rw [Array.getElem?_append_left (by simpa using hj), List.getElem?_toArray]
      exact h
    · have hq0 : l.length - p = 0 := by omega
      have hd0 : fl.drop (p * d.sz) = [] := List.length_eq_zero_iff.mp (by rw [htl, hq0, Nat.zero_mul])
      rw [hq0, hd0, List.append_nil]
      have hsrc : Src P i.size t (.slice T 0 c') 0 [] W1 := by
        cases T with
        | none => exact Src.ofNil W1 ht c'
        | some a => exact Src.ofSlice W1 ht a 0 c' [] (by simp) (fun j u h => by simp at h) (fun u hu => by cases hu)
      exact ⟨_, _, _, run_append_nothing (P := P) W1 t t ty e i ht hi (some ⟨W.heap.size, 0, none⟩) 1 1 (Nat.le_refl _) _ hsrc, Below.refl _ _, hnew⟩
  have hb02 : Below W.heap.size W w2 := below_step hb1 hb2
  have hsrc3 : Src P i.size t (.slice (some A2) (1 + (l.length - p)) c2) (1 + (l.length - p)) (cs ++ fl.drop (p * d.sz)) w2 := Src.ofSlice w2 ht A2 (1 + (l.length - p)) c2 _ (by rw [List.length_append, hcl, htl, hsz, Nat.add_mul, Nat.one_mul]) hcel2 (fun u hu => (List.mem_append.mp hu).elim (hc1 u) (fun hu => h1 u (List.drop_subset _ _ hu)))
  have hold : (Builtin.firstCells i.size p (.slice A p p)).run P w2.drew = .ok (fl.take (p * d.sz)).toArray w2.drew := by
    cases A with
    | none =>
      have h0 : l.length = 0 := by
        rcases Nat.eq_zero_or_pos l.length with h0 | h0
        · exact h0
        · obtain ⟨ad, e, _⟩ := hC.2.2 h0
          cases e
      have hp0 : p = 0 := by omega
      subst hp0
      rw [Nat.zero_mul, List.take_zero]
      exact run_firstCells_none (P := P) w2.drew i.size 0 0 0
    | some ad =>
      refine run_firstCells_some (P := P) w2.drew i.size p ad p p _ (by rw [hsz]; exact htk) (fun j u h => keep (hkd w2) (keep hb02 ?_))
      refine hcell ad rfl j u ?_
      rw [List.getElem?_take] at h
      split at h
      · exact h
      · cases h
  have hrun3 := run_append_grow_src (P := P) w2 t t ty e i z ht hi hz A p p _ hold _ (1 + (l.length - p)) _ hsrc3 (by omega) (by omega) (growslice_fits (by omega) (hmb _ (by omega)))
  have hn : p + (1 + (l.length - p)) = l.length + 1 := by omega
  rw [hn] at hrun3
  have hb3 : Below w2.heap.size w2 (w2.drew.alloc (.cells ((fl.take (p * d.sz) ++ (cs ++ fl.drop (p * d.sz))).toArray ++ Builtin.zeroCells z.cells (grownCap w2 (l.length + 1) p e - (l.length + 1))) e)) := ⟨rfl, rfl, rfl, by simp, fun k hk => Below.heap_alloc w2.drew _ k hk⟩
  have hb03 := below_step hb02 hb3
  have hreps : Reps (d.K W) d.sz (l.take p ++ x :: l.drop p) (fl.take (p * d.sz) ++ (cs ++ fl.drop (p * d.sz))) := Kd.reps_append (Kd.reps_take hr hp) (Reps.front hx hcl (Kd.reps_drop hr) rfl)
  refine ⟨A2, c2, w2, _, _, _, hrun2, hrun3, hb03, ⟨by simp; omega, by omega, fun _ => ⟨_, rfl, fun j q hq => ⟨_, d.K_len (hreps.2 j q hq), d.K_below hb03 (hreps.2 j q hq), fun k u hu => ?_⟩⟩⟩, grownCap_ge w2 (l.length + 1) p e⟩
  rw [add_plain]
  refine (World.cell?_alloc_new w2.drew _ e _).trans ?_
  have hu2 : (fl.take (p * d.sz) ++ (cs ++ fl.drop (p * d.sz)))[j * d.sz + k]? = some u := by
    rw [List.getElem?_take] at hu
    split at hu
    · rwa [List.getElem?_drop] at hu
    · cases hu
  have hj := (List.getElem?_eq_some_iff.1 hu2).1
  rw [Array.getElem?_append_left (by simpa using hj), List.getElem?_toArray]
  exact hu2
end

section
theorem info_Int2 : (Try.prog.info? 3).map (fun i => (i.zero, i.size, i.bytes)) = some (some (.int .i64 0), 1, 8) := by kernel_rfl
/-- The place at which an element is laid in. -/
def posR {α : Type} (lt : α → α → Bool) (y : α) (Z : List α) (z : α) : Nat → Nat
  | 0 => 0
  | j + 1 => if lt y (Z.getD j z) = true then posR lt y Z z j else j + 1
theorem posR_le {α : Type} (lt : α → α → Bool) (y : α) (Z : List α) (z : α) : ∀ j, posR lt y Z z j ≤ j
  | 0 => Nat.le_refl _
  | j + 1 => by
    rw [posR]
    split
    · exact Nat.le_succ_of_le (posR_le lt y Z z j)
    · exact Nat.le_refl _
theorem posR_app {α : Type} (lt : α → α → Bool) (y : α) (Z W : List α) (z : α) : ∀ j, j ≤ Z.length → posR lt y (Z ++ W) z j = posR lt y Z z j
  | 0, _ => rfl
  | j + 1, h => by
    rw [posR, posR, posR_app lt y Z W z j (by omega), List.getD_eq_getElem?_getD, List.getElem?_append_left (by omega), ← List.getD_eq_getElem?_getD]
theorem insR_pos {α : Type} (lt : α → α → Bool) (y z : α) (Z : List α) : insR lt y Z = Z.take (posR lt y Z z Z.length) ++ y :: Z.drop (posR lt y Z z Z.length) :=
  snoc_ind (P := fun Z => insR lt y Z = Z.take (posR lt y Z z Z.length) ++ y :: Z.drop (posR lt y Z z Z.length)) rfl
    (fun Z x ih => by
      rw [insR_snoc, List.length_append, List.length_singleton, posR, getD_mid z Z x [] Z.length rfl, posR_app lt y Z [x] z Z.length (Nat.le_refl _)]
      have hp := posR_le lt y Z z Z.length
      split
      · rw [ih, List.take_append_of_le_length hp, List.drop_append_of_le_length hp]; simp
      · rw [List.take_of_length_le (by simp), List.drop_of_length_le (by simp)]; simp) Z
/-- Used cells and their slots, by rows. -/
def ltP (p q : Cell × Nat) : Bool := lt_c cfR p.1 q.1
def prL (l : List Cell) (n : Nat) : List (Cell × Nat) := isort ltP ((usedI l n).map (fun k => (cellAt l k, k)))
def prC (l : List Cell) (n : Nat) : List Cell := (prL l n).map Prod.fst
def prK (l : List Cell) (n : Nat) : List Int := (prL l n).map (fun p => (p.2 : Int))
theorem posR_map (c : Cell) (k : Nat) (Z : List (Cell × Nat)) : ∀ j, j ≤ Z.length → posR ltP (c, k) Z (zC, 0) j = posR (lt_c cfR) c (Z.map Prod.fst) zC j
  | 0, _ => rfl
  | j + 1, h => by
    rw [posR, posR, posR_map c k Z j (by omega)]
    have e : ltP (c, k) (Z.getD j (zC, 0)) = lt_c cfR c ((Z.map Prod.fst).getD j zC) := by
      rw [getD_lt Z _ (show j < Z.length by omega), getD_lt (Z.map Prod.fst) _ (show j < (Z.map Prod.fst).length by rw [List.length_map]; omega), List.getElem_map]; rfl
    rw [e]
theorem pr_no (l : List Cell) (n : Nat) (h : (cellAt l n).f0 = false) : prC l (n + 1) = prC l n ∧ prK l (n + 1) = prK l n := by
  unfold prC prK prL
  rw [usedI_succ, h, if_neg (by decide), List.append_nil]
  exact ⟨rfl, rfl⟩
theorem pr_len (l : List Cell) (n : Nat) : (prC l n).length = (prK l n).length := by unfold prC prK; rw [List.length_map, List.length_map]
theorem pr_yes (l : List Cell) (n p : Nat) (h : (cellAt l n).f0 = true) (hp : p = posR (lt_c cfR) (cellAt l n) (prC l n) zC (prC l n).length) :
    prC l (n + 1) = (prC l n).take p ++ cellAt l n :: (prC l n).drop p ∧ prK l (n + 1) = (prK l n).take p ++ (n : Int) :: (prK l n).drop p := by
  have hq : p = posR ltP (cellAt l n, n) (prL l n) (zC, 0) (prL l n).length := by
    rw [hp, posR_map _ _ _ _ (Nat.le_refl _)]
    unfold prC; rw [List.length_map]
  have e : prL l (n + 1) = (prL l n).take p ++ (cellAt l n, n) :: (prL l n).drop p := by
    rw [hq, ← insR_pos]
    unfold prL
    rw [usedI_succ, h, if_pos rfl, List.map_append]
    exact isort_snoc _ _ _
  unfold prC prK
  rw [e]
  simp only [List.map_append, List.map_cons, List.map_take, List.map_drop]
  exact ⟨trivial, trivial⟩
theorem prC_is (l : List Cell) : prC l l.length = rowsL l := by
  unfold prC prL rowsL usedL
  generalize usedI l l.length = ks
  have : ∀ ks : List Nat, (isort ltP (ks.map (fun k => (cellAt l k, k)))).map Prod.fst = isort (lt_c cfR) (ks.map (cellAt l)) :=
    fun ks => snoc_ind (P := fun ks => (isort ltP (ks.map (fun k => (cellAt l k, k)))).map Prod.fst = isort (lt_c cfR) (ks.map (cellAt l))) rfl (fun ks k ih => by
      rw [List.map_append, List.map_append]
      show (isort ltP (_ ++ [(cellAt l k, k)])).map Prod.fst = isort (lt_c cfR) (_ ++ [cellAt l k])
      rw [isort_snoc, isort_snoc, ← ih, insR_pos ltP _ (zC, 0), insR_pos (lt_c cfR) _ zC, posR_map _ _ _ _ (Nat.le_refl _), List.length_map]
      simp only [List.map_append, List.map_cons, List.map_take, List.map_drop]) ks
  exact this ks
theorem ahead_is (x y : Cell) : P.quiverref09_ahead.f x.f0 x.f1 x.f2.f0 x.f2.f1 x.f2.f2 y.f0 y.f1 y.f2.f0 y.f2.f1 y.f2.f2 = some (lt_c cfR x y) := by
  unfold P.quiverref09_ahead.f lt_c cfR sgn
  by_cases h1 : x.f1 < y.f1
  · rw [if_pos h1]; simp [h1]
  · rw [if_neg h1]
    by_cases h2 : x.f1 = y.f1
    · rw [if_pos h2]
      by_cases h3 : x.f2.f0 < y.f2.f0 <;> by_cases h4 : y.f2.f0 < x.f2.f0 <;> simp [h2, h3, h4]
    · rw [if_neg h2]
      have h5 : y.f1 < x.f1 := by omega
      simp [h1, h5]

set_option maxRecDepth 100000 in
set_option maxHeartbeats 8000000 in
theorem refRows.calls (A0 : Option Addr) (c0 : Nat) (l0 : List Cell) (w : World) (hr0 : Kd.C kC w A0 l0.length l0) (hc0 : l0.length ≤ c0) (hl : l0.length ≤ 200) :
    Calls Try.prog 27 #[.agg #[.slice A0 l0.length c0]] w fun e w' => ∃ A1 c1 A2 c2, e = .returned (.tuple #[.slice A1 (prC l0 l0.length).length c1, .slice A2 (prK l0 l0.length).length c2]) ∧ Kd.C kC w' A1 (prC l0 l0.length).length (prC l0 l0.length) ∧ Kd.C (Kd.int .i64) w' A2 (prK l0 l0.length).length (prK l0 l0.length) ∧ Below w.heap.size w w' := by
  obtain ⟨w1, hw1⟩ : ∃ w1, w1 = w.alloc (.cells #[.slice A0 l0.length c0] 26) := ⟨_, rfl⟩
  have HB1 := Aside0.mk (show Below w.heap.size w w1 by rw [hw1]; exact (Below.refl _ _).alloc (Nat.le_refl _) _)
  have HBA := Aside0.mk (show w1.heap[w.heap.size]? = some (.cells #[.slice A0 l0.length c0] 26 (0, 0)) by rw [hw1]; exact heap_alloc_new w _)
  have HW1 := Aside0.mk hw1
  have HR0 := Aside0.mk hr0
  have HC0 := Aside0.mk hc0
  have hm := Kd.C_max hr0
  clear hr0 hc0 hw1
  go_enter Try.func27, Try.ntmps27
  go_upto_region 1 with (fail)
  rw [← HW1.out]
  go_wp2_with fail
  go_loopg [4, 5, 6, 7] l0.length (fun gg v4 v5 v6 _ wr => ∃ (i : Nat) (A4 : Option Addr) (c4 : Nat) (A5 : Option Addr) (c5 : Nat), v6 = .int .i64 (i : Int) ∧ i ≤ l0.length ∧ l0.length - i ≤ gg ∧ v4 = .slice A4 (prC l0 i).length c4 ∧ v5 = .slice A5 (prC l0 i).length c5 ∧ Aside0 ((prC l0 i).length ≤ c4 ∧ (prC l0 i).length ≤ c5) ∧ Aside0 ((prC l0 i).length = 0 → A4 = none ∧ A5 = none ∧ c4 = 0 ∧ c5 = 0) ∧ Aside0 (Kd.C kC wr A4 (prC l0 i).length (prC l0 i)) ∧ Aside0 (Kd.C (Kd.int .i64) wr A5 (prK l0 i).length (prK l0 i)) ∧ Aside0 (Below w1.heap.size w1 wr))
  case atStart => exact ⟨0, none, 0, none, 0, rfl, by omega, by omega, rfl, rfl, ⟨Nat.le_refl _, Nat.le_refl _⟩, ⟨fun _ => ⟨rfl, rfl, rfl, rfl⟩⟩, ⟨Kd.C_nil _ _⟩, ⟨Kd.C_nil _ _⟩, ⟨Below.refl _ _⟩⟩
  case round =>
    obtain ⟨i, A4, c4, A5, c5, rfl, hi0, hg, rfl, rfl, HLE, HZ, HC4, HC5, HBi⟩ := hrel
    have q0 : wr.cell? ⟨w.heap.size, 0, none⟩ = some (.slice A0 l0.length c0) := (blk_cell (blk_below HBA.out HBi.out) 0).trans rfl
    by_cases hlt : i < l0.length
    case neg =>
      have hltz : ¬ (i : Int) < (l0.length : Int) := by omega
      obtain rfl : i = l0.length := by omega
      go_wp2_with fail
      go_returns
      exact ⟨A4, c4, A5, ⟨c5, by rw [← pr_len]; rfl⟩, HC4.out, HC5.out, below_step HB1.out HBi.out⟩
    have hltz : (i : Int) < (l0.length : Int) := by omega
    obtain ⟨ad, Ax, cx, hA, x0, x1, x2, x3, x4, hlx, hCx⟩ := P.at_T36 (Kd.C_below (Kd.C_below HR0.out HB1.out) HBi.out) (i : Int) (by omega) (by omega)
    subst hA
    simp only [Int.toNat_natCast] at x0 x1 x2 x3 x4
    have HNO := Aside0.mk (pr_no l0 i)
    have HYES := Aside0.mk (fun p => pr_yes l0 i p)
    have HPL := Aside0.mk (pr_len l0 i)
    have HAT := Aside0.mk (show P.rd_T36 l0 (i : Int) = cellAt l0 i from rfl)
    rw [HAT.out] at x0 x1 x2 x3 x4 hlx hCx
    generalize cellAt l0 i = x at *
    cases hx0 : x.f0 with
    | false =>
      rw [hx0] at x0 HNO
      clear hx0
      go_wp2_with fail
      go_roundg (l0.length - (i + 1))
      case measure => omega
      case rel => exact ⟨i + 1, A4, c4, A5, c5, by go_num, by omega, by omega, by rw [(HNO.out trivial).1], by rw [(HNO.out trivial).1], by rw [(HNO.out trivial).1]; exact HLE, by rw [(HNO.out trivial).1]; exact HZ, by rw [(HNO.out trivial).1]; exact HC4, by rw [(HNO.out trivial).2]; exact HC5, HBi⟩
    | true =>
      rw [hx0] at HYES x0
      obtain ⟨n, hn⟩ : ∃ n, n = (prC l0 i).length := ⟨_, rfl⟩
      have HN := Aside0.mk hn
      have hn2 : (prC l0 i).length ≤ 200 := by rw [pr_len]; unfold prK prL; rw [List.length_map, isort_len, List.length_map]; have := usedI_len l0 i; omega
      have hmC := Kd.C_max HC4.out
      obtain ⟨wo, rfl⟩ : ∃ wo, wo = wr := ⟨_, rfl⟩
      have HX := Aside0.mk (show x0 = x0 from rfl)
      generalize prC l0 i = Z at *
      generalize prK l0 i = ZK at *
      go_upto_block 2 with (fail)
      go_cut [7] (fun v7 wc => ∃ p : Nat, v7 = .int .i64 (p : Int) ∧ p ≤ Z.length ∧ Aside0 (p = posR (lt_c cfR) x Z zC Z.length) ∧ Aside0 (Below wo.heap.size wo wc))
      case first =>
        have HX0 := Aside0.mk x0
        have hlt0 := hlt
        go_wp2_with fail
        go_loopg [7] Z.length (fun gg v7 wr => ∃ at_ : Nat, v7 = .int .i64 (at_ : Int) ∧ at_ ≤ Z.length ∧ at_ ≤ gg ∧ Aside0 (posR (lt_c cfR) x Z zC at_ = posR (lt_c cfR) x Z zC Z.length) ∧ Aside0 (Below wo.heap.size wo wr))
        case atStart => exact ⟨Z.length, rfl, Nat.le_refl _, Nat.le_refl _, ⟨rfl⟩, ⟨Below.refl _ _⟩⟩
        case round =>
          obtain ⟨at_, rfl, hal, hag, HP, HB2⟩ := hrel
          have hbl := World.block_lt_of_cell? wo _ x0
          have QB := fun (p : Gr wr) => Gr.cell ((HB2.out.cell (p := ⟨w.heap.size, 0, none⟩) (World.block_lt_of_cell? wo _ q0)).trans q0) p
          have X0 := fun (p : Gr wr) => Gr.cell ((HB2.out.cell (p := ad.add (i * 5)) hbl).trans x0) p
          have X1 := fun (p : Gr wr) => Gr.cell ((HB2.out.cell (p := ⟨(ad.add (i * 5)).block, (ad.add (i * 5)).off + 1, none⟩) hbl).trans x1) p
          have X2 := fun (p : Gr wr) => Gr.cell ((HB2.out.cell (p := ⟨(ad.add (i * 5)).block, (ad.add (i * 5)).off + 2, none⟩) hbl).trans x2) p
          have X3 := fun (p : Gr wr) => Gr.cell ((HB2.out.cell (p := ⟨(ad.add (i * 5)).block, (ad.add (i * 5)).off + 3, none⟩) hbl).trans x3) p
          have X4 := fun (p : Gr wr) => Gr.cell ((HB2.out.cell (p := ⟨(ad.add (i * 5)).block, (ad.add (i * 5)).off + 4, none⟩) hbl).trans x4) p
          by_cases ha0 : at_ = 0
          · subst ha0
            have hg0 : decide ((0 : Int) < ((0 : Nat) : Int)) = false := decide_eq_false (by omega)
            have hg1 : decide (((0 : Nat) : Int) > (0 : Int)) = false := decide_eq_false (by omega)
            clear x0 x1 x2 x3 x4
            go_wp2_with fail
            refine wp_region_gr (by kernel_rfl) (by kernel_rfl) ?_
            repeat (go_big_quiet_step (fail))
            refine wpQuiet_nil ?_
            intro w9 hw'
            have HB9 := Aside0.mk (below_step HB2.out (show Below wr.heap.size wr w9 by obtain ⟨p, rfl⟩ := hw'; exact p.h))
            clear hw'
            go_wp2_with fail
            go_meet
            exact ⟨0, rfl, Nat.zero_le _, ⟨HP.out⟩, HB9⟩
          · obtain ⟨q, rfl⟩ : ∃ q, at_ = q + 1 := ⟨at_ - 1, by omega⟩
            obtain ⟨bd, Ay, cy, hB, y0, y1, y2, y3, y4, hly, hCy⟩ := P.at_T36 (Kd.C_below HC4.out HB2.out) (q : Int) (by omega) (by omega)
            subst hB
            simp only [Int.toNat_natCast] at y0 y1 y2 y3 y4
            have hst : posR (lt_c cfR) x Z zC (q + 1) = if lt_c cfR x (P.rd_T36 Z (q : Int)) = true then posR (lt_c cfR) x Z zC q else q + 1 := by
              rw [posR]; rfl
            have HST := Aside0.mk hst
            have HC := Aside0.mk (fun (p : Gr wr) => P.quiverref09_ahead.calls x.f0 x.f1 x.f2.f0 x.f2.f1 Ax cx x.f2.f2 (P.rd_T36 Z (q : Int)).f0 (P.rd_T36 Z (q : Int)).f1 (P.rd_T36 Z (q : Int)).f2.f0 (P.rd_T36 Z (q : Int)).f2.f1 Ay cy (P.rd_T36 Z (q : Int)).f2.f2 (lt_c cfR x (P.rd_T36 Z (q : Int))) p.w (Kd.C_below (Kd.C_below hCx HB2.out) p.h) hlx (Kd.C_below hCy p.h) hly (ahead_is _ _))
            rw [hx0] at HC
            generalize P.rd_T36 Z (q : Int) = y at *
            generalize lt_c cfR x y = s at *
            have Y0 := fun (p : Gr wr) => Gr.cell y0 p
            have Y1 := fun (p : Gr wr) => Gr.cell y1 p
            have Y2 := fun (p : Gr wr) => Gr.cell y2 p
            have Y3 := fun (p : Gr wr) => Gr.cell y3 p
            have Y4 := fun (p : Gr wr) => Gr.cell y4 p
            have hg0 : (0 : Int) < (q : Int) + 1 := by omega
            have hwq : IntKind.i64.wrap (q : Int) = (q : Int) := by rw [IntKind.wrap_i64]; omega
            have hql : (q : Int) < (Z.length : Int) := by omega
            clear x0 x1 x2 x3 x4 y0 y1 y2 y3 y4 hst ha0 hCy hly
            cases s with
            | true =>
              go_wp2_with fail
              refine wp_region_gr (by kernel_rfl) (by kernel_rfl) ?_
              repeat (go_big_quiet_step ((go_at_call 51; exact Calls.gr_of (HC.out _))))
              refine wpQuiet_nil ?_
              intro w9 hw'
              have HB9 := Aside0.mk (below_step HB2.out (show Below wr.heap.size wr w9 by obtain ⟨p, rfl⟩ := hw'; exact p.h))
              clear hw'
              go_wp2_with fail
              go_roundg q
              case measure => omega
              case rel => exact ⟨q, by go_num, by omega, by omega, ⟨by rw [← HP.out, HST.out]; simp⟩, HB9⟩
            | false =>
              go_wp2_with fail
              refine wp_region_gr (by kernel_rfl) (by kernel_rfl) ?_
              repeat (go_big_quiet_step ((go_at_call 51; exact Calls.gr_of (HC.out _))))
              refine wpQuiet_nil ?_
              intro w9 hw'
              have HB9 := Aside0.mk (below_step HB2.out (show Below wr.heap.size wr w9 by obtain ⟨p, rfl⟩ := hw'; exact p.h))
              clear hw'
              go_wp2_with fail
              go_meet
              exact ⟨q + 1, by go_num, hal, ⟨by rw [← HP.out, HST.out]; simp⟩, HB9⟩
      case rest =>
      obtain ⟨p, rfl, hpl, HPP, HBc⟩ := hcut
      have HLEi := HLE.out
      have hxc : wc.cell? (ad.add (i * 5)) = some (.bool x.f0) := by rw [hx0]; exact (HBc.out.cell (p := ad.add (i * 5)) (World.block_lt_of_cell? wo _ x0)).trans x0
      have hbl := World.block_lt_of_cell? wo _ x0
      replace x0 := (HBc.out.cell (p := ad.add (i * 5)) hbl).trans x0
      replace x1 := (HBc.out.cell (p := ⟨(ad.add (i * 5)).block, (ad.add (i * 5)).off + 1, none⟩) hbl).trans x1
      replace x2 := (HBc.out.cell (p := ⟨(ad.add (i * 5)).block, (ad.add (i * 5)).off + 2, none⟩) hbl).trans x2
      replace x3 := (HBc.out.cell (p := ⟨(ad.add (i * 5)).block, (ad.add (i * 5)).off + 3, none⟩) hbl).trans x3
      replace x4 := (HBc.out.cell (p := ⟨(ad.add (i * 5)).block, (ad.add (i * 5)).off + 4, none⟩) hbl).trans x4
      replace q0 := (HBc.out.cell (p := ⟨w.heap.size, 0, none⟩) (World.block_lt_of_cell? wo _ q0)).trans q0
      have HC4c := Aside0.mk (Kd.C_below HC4.out HBc.out)
      have HC5c := Aside0.mk (Kd.C_below HC5.out HBc.out)
      by_cases hn0 : Z.length = 0
      · obtain ⟨rfl, rfl, rfl, rfl⟩ := HZ.out hn0
        obtain rfl : p = 0 := by omega
        obtain rfl : Z = [] := List.length_eq_zero_iff.mp hn0
        obtain rfl : ZK = [] := List.length_eq_zero_iff.mp (by rw [← HPL.out]; rfl)
        have hdr : Below wc.heap.size wc wc.drew := ⟨rfl, rfl, rfl, Nat.le_refl _, fun _ _ => rfl⟩
        obtain ⟨i0, hi0', hz0', hz1', hz2'⟩ := info_parts info_Cell
        obtain ⟨A2, c2, w2', B2, d2, w3, hrun1, hrun2, hb3, hC3, hc3⟩ := ins_run kC (by decide) (P := Try.prog) 22 22 36 i0 _ Try.underlying22 hi0' hz0' hz1' (by omega) ([] : List Cell) x [.bool true, .int .u64 x.f1, .int .u64 x.f2.f0, .int .u64 x.f2.f1, .slice Ax x.f2.f2.length cx] wc.drew none 0 (Kd.C_below HC4c.out hdr) (by have := P.k36_mk wc.drew x hlx (Kd.C_below (Kd.C_below hCx HBc.out) hdr); rw [hx0] at this; exact this) hpl hn2 (none) (0) (fun h => absurd h (by simp))
        have hb3c : Below wc.heap.size wc w3 := below_step hdr hb3
        have HC53 := Aside0.mk (Kd.C_below HC5c.out hb3c)
        have hdr3 : Below w3.heap.size w3 w3.drew := ⟨rfl, rfl, rfl, Nat.le_refl _, fun _ _ => rfl⟩
        obtain ⟨i1, hi1', hz3', hz4', hz5'⟩ := info_parts info_Int2
        obtain ⟨E2, e2, w4', F2, f2, w5, hrun3, hrun4, hb5, hC5', hc5'⟩ := ins_run (Kd.int .i64) (by decide) (P := Try.prog) 45 45 3 i1 _ Try.underlying45 hi1' hz3' hz4' (by omega) ([] : List Int) (i : Int) [.int .i64 (i : Int)] w3.drew none 0 (Kd.C_below HC53.out hdr3) rfl (by rw [← HPL.out]; exact hpl) (by rw [← HPL.out]; exact hn2) (none) (0) (fun h => absurd h (by simp))
        have hb5c : Below wo.heap.size wo w5 := below_step (below_step HBc.out hb3c) (below_step hdr3 hb5)
        have hC4f := Kd.C_below hC3 (below_step hdr3 hb5)
        rw [← HPL.out] at hrun3 hrun4 hC5' hc5'
        obtain ⟨hyC, hyK⟩ := HYES.out 0 rfl HPP.out
        have H1 := Aside0.mk hrun1
        have H2 := Aside0.mk hrun2
        have H3 := Aside0.mk hrun3
        have H4 := Aside0.mk hrun4
        have HB5 := Aside0.mk (below_step HBi.out hb5c)
        have HC4f := Aside0.mk hC4f
        have HC5f := Aside0.mk hC5'
        have HY1 := Aside0.mk hyC
        have HY2 := Aside0.mk hyK
        have hlen1 : (([] : List Cell).take 0 ++ x :: ([] : List Cell).drop 0).length = ([] : List Cell).length + 1 := by simp <;> omega
        have hlen2 : (([] : List Int).take 0 ++ (i : Int) :: ([] : List Int).drop 0).length = ([] : List Cell).length + 1 := by have := HPL.out; simp <;> omega
        have HL1 := Aside0.mk hlen1
        have HL2 := Aside0.mk hlen2
        have HB3c := Aside0.mk hb3c
        have q03 : w3.cell? ⟨w.heap.size, 0, none⟩ = some (.slice (some ad) l0.length c0) := (hb3c.cell (p := ⟨w.heap.size, 0, none⟩) (World.block_lt_of_cell? wc _ q0)).trans q0
        have HCC := Aside0.mk (show ([] : List Cell).length + 1 ≤ d2 ∧ ([] : List Cell).length + 1 ≤ f2 from ⟨hc3, hc5'⟩)
        clear hrun1 hrun2 hrun3 hrun4 hb5c hC4f hC5' hyC hyK hlen1 hlen2 hb3 hb5 hdr hdr3 hC3 hc3 hc5' hi0' hz0' hz1' hz2' hi1' hz3' hz4' hz5' hb3c hxc
        go_wp2_with fail
        go_region_law (first | (refine step_append_run rfl (.tmp 50) (.tmp 53) 22 rfl _ _ _ w2' rfl rfl H1.out ?_) | (refine step_append_run rfl (.tmp 44) (.tmp 54) 22 rfl _ _ _ w3 rfl rfl H2.out ?_))
        go_wp2_with fail
        go_region_law (first | (refine step_append_run rfl (.tmp 61) (.tmp 64) 45 rfl _ _ _ w4' rfl rfl H3.out ?_) | (refine step_append_run rfl (.tmp 59) (.tmp 65) 45 rfl _ _ _ w5 rfl rfl H4.out ?_))
        go_wp2_with fail
        go_roundg (l0.length - (i + 1))
        case measure => omega
        case rel => exact ⟨i + 1, some B2, d2, some F2, f2, by go_num, by omega, by omega, by rw [HY1.out, HL1.out] <;> rfl, by rw [HY1.out, HL1.out] <;> rfl, by rw [HY1.out, HL1.out]; exact HCC, by rw [HY1.out, HL1.out]; exact ⟨fun h => by omega⟩, by rw [HY1.out, HL1.out]; exact HC4f, by rw [HY2.out, HL2.out]; exact HC5f, HB5⟩
      · obtain ⟨a4, rfl⟩ : ∃ a, A4 = some a := by
          obtain ⟨a, e, _⟩ := HC4.out.2.2 (by omega)
          exact ⟨a, e⟩
        obtain ⟨a5, rfl⟩ : ∃ a, A5 = some a := by
          obtain ⟨a, e, _⟩ := HC5.out.2.2 (by have := HPL.out; omega)
          exact ⟨a, e⟩
        have hpc4 : p ≤ c4 := by omega
        have hpc5 : p ≤ c5 := by omega
        have hz1 : (p : Int) ≤ (Z.length : Int) := by omega
        have hz2 : (p : Int) ≤ (c4 : Int) := by omega
        have hz3 : (p : Int) ≤ (c5 : Int) := by omega
        have hz4 : (Z.length : Int) ≤ (c4 : Int) := by omega
        have hz5 : (Z.length : Int) ≤ (c5 : Int) := by omega
        have hdr : Below wc.heap.size wc wc.drew := ⟨rfl, rfl, rfl, Nat.le_refl _, fun _ _ => rfl⟩
        obtain ⟨i0, hi0', hz0', hz1', hz2'⟩ := info_parts info_Cell
        obtain ⟨A2, c2, w2', B2, d2, w3, hrun1, hrun2, hb3, hC3, hc3⟩ := ins_run kC (by decide) (P := Try.prog) 22 22 36 i0 _ Try.underlying22 hi0' hz0' hz1' (by omega) Z x [.bool true, .int .u64 x.f1, .int .u64 x.f2.f0, .int .u64 x.f2.f1, .slice Ax x.f2.f2.length cx] wc.drew (some a4) p (Kd.C_below HC4c.out hdr) (by have := P.k36_mk wc.drew x hlx (Kd.C_below (Kd.C_below hCx HBc.out) hdr); rw [hx0] at this; exact this) hpl hn2 (if c4 = p then some a4 else some (a4.add (p * 5))) (c4 - p) (fun h => ⟨a4, rfl, if_neg (by omega)⟩)
        have hb3c : Below wc.heap.size wc w3 := below_step hdr hb3
        have HC53 := Aside0.mk (Kd.C_below HC5c.out hb3c)
        have hdr3 : Below w3.heap.size w3 w3.drew := ⟨rfl, rfl, rfl, Nat.le_refl _, fun _ _ => rfl⟩
        obtain ⟨i1, hi1', hz3', hz4', hz5'⟩ := info_parts info_Int2
        obtain ⟨E2, e2, w4', F2, f2, w5, hrun3, hrun4, hb5, hC5', hc5'⟩ := ins_run (Kd.int .i64) (by decide) (P := Try.prog) 45 45 3 i1 _ Try.underlying45 hi1' hz3' hz4' (by omega) ZK (i : Int) [.int .i64 (i : Int)] w3.drew (some a5) p (Kd.C_below HC53.out hdr3) rfl (by rw [← HPL.out]; exact hpl) (by rw [← HPL.out]; exact hn2) (if c5 = p then some a5 else some (a5.add p)) (c5 - p) (fun h => ⟨a5, rfl, by rw [if_neg (by have := HPL.out; omega)]; rw [show p * (Kd.int .i64).sz = p from Nat.mul_one p]⟩)
        have hb5c : Below wo.heap.size wo w5 := below_step (below_step HBc.out hb3c) (below_step hdr3 hb5)
        have hC4f := Kd.C_below hC3 (below_step hdr3 hb5)
        rw [← HPL.out] at hrun3 hrun4 hC5' hc5'
        obtain ⟨hyC, hyK⟩ := HYES.out p rfl HPP.out
        have H1 := Aside0.mk hrun1
        have H2 := Aside0.mk hrun2
        have H3 := Aside0.mk hrun3
        have H4 := Aside0.mk hrun4
        have HB5 := Aside0.mk (below_step HBi.out hb5c)
        have HC4f := Aside0.mk hC4f
        have HC5f := Aside0.mk hC5'
        have HY1 := Aside0.mk hyC
        have HY2 := Aside0.mk hyK
        have hlen1 : (Z.take p ++ x :: Z.drop p).length = Z.length + 1 := by simp <;> omega
        have hlen2 : (ZK.take p ++ (i : Int) :: ZK.drop p).length = Z.length + 1 := by have := HPL.out; simp <;> omega
        have HL1 := Aside0.mk hlen1
        have HL2 := Aside0.mk hlen2
        have HB3c := Aside0.mk hb3c
        have q03 : w3.cell? ⟨w.heap.size, 0, none⟩ = some (.slice (some ad) l0.length c0) := (hb3c.cell (p := ⟨w.heap.size, 0, none⟩) (World.block_lt_of_cell? wc _ q0)).trans q0
        have HCC := Aside0.mk (show Z.length + 1 ≤ d2 ∧ Z.length + 1 ≤ f2 from ⟨hc3, hc5'⟩)
        clear hrun1 hrun2 hrun3 hrun4 hb5c hC4f hC5' hyC hyK hlen1 hlen2 hb3 hb5 hdr hdr3 hC3 hc3 hc5' hi0' hz0' hz1' hz2' hi1' hz3' hz4' hz5' hb3c hxc
        go_wp2_with fail
        go_region_law (first | (refine step_append_run rfl (.tmp 50) (.tmp 53) 22 rfl _ _ _ w2' rfl rfl H1.out ?_) | (refine step_append_run rfl (.tmp 44) (.tmp 54) 22 rfl _ _ _ w3 rfl rfl H2.out ?_))
        generalize (if c4 = p then some a4 else some (a4.add (p * 5))) = T4
        go_wp2_with fail
        go_region_law (first | (refine step_append_run rfl (.tmp 61) (.tmp 64) 45 rfl _ _ _ w4' rfl rfl H3.out ?_) | (refine step_append_run rfl (.tmp 59) (.tmp 65) 45 rfl _ _ _ w5 rfl rfl H4.out ?_))
        generalize (if c5 = p then some a5 else some (a5.add p)) = T5
        go_wp2_with fail
        go_roundg (l0.length - (i + 1))
        case measure => omega
        case rel => exact ⟨i + 1, some B2, d2, some F2, f2, by go_num, by omega, by omega, by rw [HY1.out, HL1.out] <;> rfl, by rw [HY1.out, HL1.out] <;> rfl, by rw [HY1.out, HL1.out]; exact HCC, by rw [HY1.out, HL1.out]; exact ⟨fun h => by omega⟩, by rw [HY1.out, HL1.out]; exact HC4f, by rw [HY2.out, HL2.out]; exact HC5f, HB5⟩
end

end Go.Proofs.Ytoblkjdiahoplaa.G
