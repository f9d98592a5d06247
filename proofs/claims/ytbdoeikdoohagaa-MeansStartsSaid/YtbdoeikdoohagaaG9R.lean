/- The iterator of means.part: its contract for every loop body. Contract of means.Round: centroids behind a round. -/
import Derived.Test.YtbdoeikdoohagaaG9
import Derived.Maps.AppendAt
namespace Go.Proofs.Ytbdoeikdoohagaa.G
open Go.Shelf Go.RowKit Go.Proofs.YtbdoeikdoohagaaW.PrintWords Go.Proofs.YtbdoeikdoohagaaW.PrintLast Go.Proofs.YtbdoeikdoohagaaW.PrintMore
set_option linter.unusedVariables false
set_option linter.unusedSimpArgs false

section
attribute [local go_sem] Oper.semAt_some

theorem drew_grown (w : World) : w.grownBy w.drew none := ⟨rfl, rfl, rfl, Nat.le_refl _, fun _ _ _ => rfl⟩
theorem filter_range_snoc (p : Nat → Bool) (k : Nat) : (List.range (k + 1)).filter p = (List.range k).filter p ++ (if p k = true then [k] else []) := by
  rw [List.range_succ, List.filter_append]
  congr 1
  by_cases h : p k = true <;> simp [h]

set_option maxRecDepth 100000 in
set_option maxHeartbeats 2000000 in
theorem part1 (n y B1 B2 B3 : Nat) (S : Nat → Prop) (A : Option Addr) (N ca : Nat) (PA : Option Addr) (pc : Nat) (ps : Nat → Int) (val : Nat → Value) (m : Nat) (J Jx : List Nat → World → Prop) (W : World)
    (hJ : AbidesFrom W.heap.size J)
    (hY : ∀ pre x W1, J pre W1 → pre.length < N → YieldAt Fence.wide (n - 1) Try.prog y #[val x] W1 fun e W' => (e = .returned (.bool true) ∧ J (pre ++ [x]) W' ∧ Kept W1 W' S) ∨ (e = .returned (.bool false) ∧ Jx (pre ++ [x]) W'))
    (h1 : W.cell? ⟨B1, 0, none⟩ = some (.slice A N ca)) (h2 : W.cell? ⟨B2, 0, none⟩ = some (.slice PA N pc)) (h3 : W.cell? ⟨B3, 0, none⟩ = some (.int .i64 m)) (s2 : ¬ S B2) (s3 : ¬ S B3)
    (hv : ∀ j, j < N → ∃ ad, A = some ad ∧ ¬ S ad.block ∧ W.cell? (ad.add j) = some (val j))
    (hp : ∀ j, j < N → ∃ ad, PA = some ad ∧ ¬ S ad.block ∧ W.cell? (ad.add j) = some (.int .i64 (ps j)))
    (hN : N ≤ 1000000) (h0 : J [] W) :
    CallsIn Fence.wide n Try.prog 80 #[.func (.yield y) #[] #[], .pointer (some ⟨B1, 0, none⟩), .pointer (some ⟨B2, 0, none⟩), .pointer (some ⟨B3, 0, none⟩)] W fun e W' => (∃ v, e = .returned v) ∧
      ((∃ ys, ys = (List.range N).filter (fun j => decide (ps j = m)) ∧ J ys W') ∨ (∃ pre, True ∧ Jx pre W')) := by
  have HV := Aside0.mk hv
  have HP := Aside0.mk hp
  have HJ := Aside0.mk hJ
  have HY := Aside0.mk hY
  have H0 := Aside0.mk h0
  have H2 := Aside0.mk h2
  have H3 := Aside0.mk h3
  have hmix : Try.prog.follows .mixedOrders = true := by kernel_rfl
  have HM := Aside0.mk hmix
  clear hv hp hJ hY h0 h2 h3 hmix
  refine callsIn_wide.2 ?_
  go_enter Try.func80, Try.ntmps80
  go_wp2_with fail
  go_loopg [9] N (fun gg s9 wr => ∃ k : Nat, k ≤ N ∧ N - k ≤ gg ∧ s9 = .int .i64 k ∧ Aside0 (J ((List.range k).filter (fun j => decide (ps j = m))) wr) ∧ Aside0 (Kept W wr S))
  case atStart => exact ⟨0, Nat.zero_le _, by omega, rfl, H0, ⟨Kept.refl _ _⟩⟩
  case round =>
    obtain ⟨k, hk, hg, rfl, HJk, HK⟩ := hrel
    by_cases hlt : k < N
    · have hltz : (k : Int) < (N : Int) := by omega
      obtain ⟨ad, rfl, hs, hx⟩ := HV.out k hlt
      obtain ⟨pd, rfl, hps, hpx⟩ := HP.out k hlt
      have c1 : wr.cell? (ad.add k) = some (val k) := Go.Proofs.YtbdoeikdoohagaaW.PrintWords.cell_kept hx HK.out (by rw [block_add]; exact hs)
      have c4 : wr.cell? (pd.add k) = some (.int .i64 (ps k)) := Go.Proofs.YtbdoeikdoohagaaW.PrintWords.cell_kept hpx HK.out (by rw [block_add]; exact hps)
      have c2 : wr.cell? ⟨B2, 0, none⟩ = some (.slice (some pd) N pc) := Go.Proofs.YtbdoeikdoohagaaW.PrintWords.cell_kept H2.out HK.out s2
      have c3 : wr.cell? ⟨B3, 0, none⟩ = some (.int .i64 m) := Go.Proofs.YtbdoeikdoohagaaW.PrintWords.cell_kept H3.out HK.out s3
      have HF := Aside0.mk (filter_range_snoc (fun j => decide (ps j = m)) k)
      have hlen : ((List.range k).filter (fun j => decide (ps j = m))).length ≤ k := by
        have := List.length_filter_le (fun j => decide (ps j = m)) (List.range k)
        rwa [List.length_range] at this
      by_cases hq : ps k = m
      · have e1 : (ps k == (m : Int)) = true := by rw [beq_iff_eq]; exact hq
        have hy := YieldAt.mono (HY.out _ k wr.drew (HJ.out _ wr wr.drew none HJk.out (drew_grown wr) (fun r e => by cases e)) (by omega)) (R' := fun e W' => ∃ b : Bool, e = .returned (.bool b) ∧ Aside0 ((b = true ∧ J ((List.range (k + 1)).filter (fun j => decide (ps j = m))) W' ∧ Kept W W' S) ∨ (b = false ∧ ∃ pre, Jx pre W'))) (fun e W' h => by
          rcases h with ⟨h1, h2, h3⟩ | ⟨h1, h2⟩
          · refine ⟨true, h1, ⟨.inl ⟨rfl, ?_, (HK.out.drew).then_ h3 (fun k h => .inl h)⟩⟩⟩
            have := HF.out
            rw [if_pos (decide_eq_true hq)] at this
            rw [this]; exact h2
          · exact ⟨false, h1, ⟨.inr ⟨rfl, _, h2⟩⟩⟩)
        obtain ⟨fn, tmps, assign, body, hy, hR⟩ := hy
        have HR := Aside0.mk hR
        clear hR hx hpx hs hps hlen hq
        generalize ps k = q at *
        generalize val k = v at *
        go_upto_region 3 with (fail)
        have hmix := HM.out
        refine (wpIn_wide (n := n)).1 ?_
        gi_region_with_o (refine ⟨(fun h => (by cases h)), ?_⟩; refine HR.out.mono ?_; rintro e W3 ⟨b, rfl, hb⟩)
        all_goals
          cases b with
          | true =>
            have HJ2 := Aside0.mk (hb.out.elim (fun h => h.2.1) (fun h => by cases h.1))
            have HK2 := Aside0.mk (hb.out.elim (fun h => h.2.2) (fun h => by cases h.1))
            clear hb hmix hy
            go_wp2_with fail
            go_roundg (N - (k + 1))
            case measure => omega
            case rel => exact ⟨k + 1, hlt, by omega, by go_num, HJ2, HK2⟩
          | false =>
            have HX := Aside0.mk (hb.out.elim (fun h => (by cases h.1 : ∃ pre, Jx pre W3)) (fun h => h.2))
            clear hb hmix hy
            go_wp2_with fail
            go_returns
            obtain ⟨pre, hx⟩ := HX.out
            exact ⟨⟨_, rfl⟩, .inr ⟨pre, trivial, hx⟩⟩
      · have e1 : (ps k == (m : Int)) = false := by rw [beq_eq_false_iff_ne]; exact hq
        have HN := Aside0.mk (show (List.range (k + 1)).filter (fun j => decide (ps j = m)) = (List.range k).filter (fun j => decide (ps j = m)) by
          have := HF.out
          rwa [if_neg (by rw [decide_eq_true_iff]; exact hq), List.append_nil] at this)
        clear hx hpx hs hps hlen HF hq
        generalize ps k = q at *
        generalize val k = v at *
        go_wp2_with fail
        go_quiet (fail)
        go_wp2_with fail
        have HJ2 := Aside0.mk (by rw [HN.out]; exact HJ.out _ wr (wr.drewN nq) none HJk.out (grown_drewN nq) (fun r e => by cases e) : J ((List.range (k + 1)).filter (fun j => decide (ps j = m))) (wr.drewN nq))
        have HK2 := Aside0.mk (HK.out.drewN nq)
        go_roundg (N - (k + 1))
        case measure => omega
        case rel => exact ⟨k + 1, hlt, by omega, by go_num, HJ2, HK2⟩
    · obtain rfl : k = N := by omega
      go_wp2_with fail
      go_returns
      exact ⟨⟨_, rfl⟩, .inl ⟨_, rfl, HJk.out⟩⟩

theorem part_stops (n B1 B2 B3 : Nat) (S : Nat → Prop) (A : Option Addr) (N ca : Nat) (PA : Option Addr) (pc : Nat) (ps : Nat → Int) (val : Nat → Value) (m : Nat) (w : World)
    (h1 : w.cell? ⟨B1, 0, none⟩ = some (.slice A N ca)) (h2 : w.cell? ⟨B2, 0, none⟩ = some (.slice PA N pc)) (h3 : w.cell? ⟨B3, 0, none⟩ = some (.int .i64 m)) (s2 : ¬ S B2) (s3 : ¬ S B3)
    (hv : ∀ j, j < N → ∃ ad, A = some ad ∧ ¬ S ad.block ∧ w.cell? (ad.add j) = some (val j))
    (hp : ∀ j, j < N → ∃ ad, PA = some ad ∧ ¬ S ad.block ∧ w.cell? (ad.add j) = some (.int .i64 (ps j)))
    (hN : N ≤ 1000000) :
    SeqStopsK Fence.wide n Try.prog 80 #[.pointer (some ⟨B1, 0, none⟩), .pointer (some ⟨B2, 0, none⟩), .pointer (some ⟨B3, 0, none⟩)] (fun x : Nat => #[val x]) (fun W W' => Kept W W' S) (fun ys => ys = (List.range N).filter (fun j => decide (ps j = m))) (fun _ => True) N w := fun y J Jx W hW hJ _ hY h0 =>
  have cb : ∀ (a : Addr) v, w.cell? a = some v → W.cell? a = some v := fun a v h => (hW.cell (World.block_lt_of_cell? w a h)).trans h
  part1 n y B1 B2 B3 S A N ca PA pc ps val m J Jx W hJ hY (cb _ _ h1) (cb _ _ h2) (cb _ _ h3) s2 s3
    (fun j hj => by obtain ⟨ad, e, hs, hc⟩ := hv j hj; exact ⟨ad, e, hs, cb _ _ hc⟩) (fun j hj => by obtain ⟨ad, e, hs, hc⟩ := hp j hj; exact ⟨ad, e, hs, cb _ _ hc⟩) hN h0
end

section
attribute [local go_sem] Oper.semAt_some

theorem R_put {α : Type} {d : Kd α} {e base : Nat} {W : World} {ok : Nat → Prop} {v : Value} {xs : List α} (h : d.R e W base ok v xs) {D : Nat} {o : Obj} (o' : Obj) (hD : W.heap[D]? = some o) (ho : o.isCells = false) : d.R e (W.putObj D o') base ok v xs := by
  refine Kd.R_mono (Kd.R_move (Kd.R_bound h) (fun k hk => World.putObj_heap_other (fun e => ?_))) (fun _ hk => hk.1)
  obtain ⟨_, _, _, q, _, cells, hc⟩ := hk
  rw [e, hD] at hc
  injection hc with hc
  rw [hc] at ho
  cases ho
/-- The marks of loops over iterators that were entered: each of its own block. -/
def marks (ds : List Nat) : List Deferred := ds.map fun D => { target := .collected D, args := #[] }
def openD (base : Nat) (w : World) (ds : List Nat) : Prop := (∀ D ∈ ds, base ≤ D ∧ w.heap[D]? = some (.deferred (some []))) ∧ ds.Nodup
theorem openD.below {base : Nat} {w w' : World} {ds : List Nat} (h : openD base w ds) (hb : Below w.heap.size w w') : openD base w' ds :=
  ⟨fun D hD => ⟨(h.1 D hD).1, blk_below (h.1 D hD).2 hb⟩, h.2⟩
theorem openD.cons {base D : Nat} {w w' : World} {ds : List Nat} (h : openD base w ds) (hb : Below w.heap.size w w') (hD : w.heap.size ≤ D) (hbase : base ≤ D) (hw : w'.heap[D]? = some (.deferred (some []))) : openD base w' (D :: ds) := by
  refine ⟨fun E hE => ?_, List.nodup_cons.2 ⟨fun hm => ?_, h.2⟩⟩
  · rcases List.mem_cons.1 hE with rfl | hE
    · exact ⟨hbase, hw⟩
    · exact ⟨(h.1 E hE).1, blk_below (h.1 E hE).2 hb⟩
  · have := blk_lt (h.1 D hm).2
    omega
theorem openD.set {base : Nat} {w : World} {ds : List Nat} (h : openD base w ds) (g j : Nat) (u : Value) : openD base (w.setCell ⟨g, j, none⟩ u) ds := by
  refine ⟨fun D hD => ⟨(h.1 D hD).1, ?_⟩, h.2⟩
  have hd := (h.1 D hD).2
  exact KeepsOthers.same (KeepsOthers.setCell w ⟨g, j, none⟩ u) D _ hd rfl
theorem leavesM {F : Fence} {n : Nat} {P : Program} {fn : Func} {tmps : Array Value} {R : Ending → World → Prop} {α : Type} {d : Kd α} {e base : Nat} {v : Value} {xs : List α} (w0 : World) (hbase : base = w0.heap.size) (K : ∀ w, Kd.R d e w base (fun _ => True) v xs → Below w0.heap.size w0 w → LeavesIn F n P fn tmps R [] .returning w) :
    ∀ (ds : List Nat) (w : World), openD base w ds → Kd.R d e w base (fun _ => True) v xs → Below w0.heap.size w0 w → LeavesInM F n P fn tmps R (marks ds) .returning w
  | [], w, _, hr, hb => K w hr hb
  | D :: ds, w, hd, hr, hb => by
    have hD := hd.1 D (by simp)
    refine ⟨by simp, .inl ⟨_, _, rfl, run_takeDeferred hD.2, ?_⟩⟩
    refine leavesM w0 hbase K ds _ ⟨fun E hE => ⟨(hd.1 E (by simp [hE])).1, ?_⟩, (List.nodup_cons.1 hd.2).2⟩ (R_put hr _ hD.2 rfl) (hb.trans (belowK_b (w := w0) (Nat.le_refl _) w D _ _ (by omega) hD.2 rfl rfl))
    rw [World.putObj_heap_other (fun e => (List.nodup_cons.1 hd.2).1 (by rw [← e]; exact hE))]
    exact (hd.1 E (by simp [hE])).2

theorem appended2 {W w1 : World} {n₁ B : Nat} {t e : TypeId} {size : Nat} {v v' : Value} {k m : Nat} {xs ys : List Value} {tmp : Obj}
    (hv : Boxed W B t v) (hte : t ≠ e) (hrow : W.ownsRow n₁ e size v k xs) (hn₁ : n₁ ≤ W.heap.size) (hBn : B ≤ n₁)
    (hown' : w1.ownsRow n₁ e size v' m ys) (hgrow : (W.alloc tmp).grownBy w1 v.ownBlock) :
    Boxed w1 B t v ∧ Boxed (w1.setCell ⟨B, 0, none⟩ v') B t v' ∧ (w1.setCell ⟨B, 0, none⟩ v').ownsRow n₁ e size v' m ys ∧ KeepsOthers W (w1.setCell ⟨B, 0, none⟩ v') ∧ Below B W (w1.setCell ⟨B, 0, none⟩ v') ∧ Kept W (w1.setCell ⟨B, 0, none⟩ v') (fun k => k = B ∨ n₁ ≤ k) := by
  obtain ⟨a1, a2, _, a4, a5⟩ := hv.appended hte (own_weaken hrow hBn) (Nat.le_of_lt hv.lt) (Nat.le_refl _) (own_weaken hown' hBn) hgrow
  refine ⟨a1, a2, hown'.kept (grownBy_setCell' w1 B v') (.inr (a1.not_row hte hown').symm), a4, a5, ?_⟩
  refine Kept.setCell (Kept.of_grown hgrow ((Kept.refl W _).alloc tmp) fun k hk => ?_) (p := ⟨B, 0, none⟩) (.inl (.inl rfl)) v'
  exact .inl (.inr (own_base hrow k hk))
def vA (v : Value) : Option Addr := match v with | .slice B _ _ => B | _ => none
def vN (v : Value) : Nat := match v with | .slice _ n _ => n | _ => 0
def vC (v : Value) : Nat := match v with | .slice _ _ c => c | _ => 0
def valS (w : World) (A : Option Addr) (j : Nat) : Value := .slice (vA (valAt w A j)) (vN (valAt w A j)) (vC (valAt w A j))
theorem valS_is {w : World} {ad : Addr} {j : Nat} {B : Option Addr} {n c : Nat} (h : w.cell? (ad.add j) = some (.slice B n c)) : valS w (some ad) j = .slice B n c := by
  unfold valS
  rw [valAt_is h]
  rfl
theorem R_of_own {w W : World} {n₁ : Nat} {v : Value} {A : Option Addr} {l : List (List Int)} (hr : Kd.C kR w A l.length l) (js : List Nat) (hj : ∀ j ∈ js, j < l.length) (h : W.ownsRow n₁ 25 1 v js.length (js.map (valS w A))) :
    Kd.R (Kd.fixed kR w) 25 W n₁ (fun _ => True) v (js.map fun j => l.getD j []) := by
  refine ⟨fun _ _ => trivial, js.map (valS w A), by rw [List.length_map]; exact h, by rw [List.length_map, List.length_map, show (Kd.fixed kR w).sz = 1 from rfl, Nat.mul_one], fun i x hx => ?_⟩
  rw [List.getElem?_map] at hx
  obtain ⟨j, hji, rfl⟩ := Option.map_eq_some_iff.1 hx
  have hjm : j ∈ js := List.mem_of_getElem? hji
  obtain ⟨ad, A', c', rfl, hcell, hlc, hC⟩ := C_row hr j (hj j hjm)
  have e : ((js.map (valS w (some ad))).drop (i * (Kd.fixed kR w).sz)).take (Kd.fixed kR w).sz = [.slice A' (l.getD j []).length c'] := by
    have hi : i < (js.map (valS w (some ad))).length := by rw [List.length_map]; exact (List.getElem?_eq_some_iff.1 hji).1
    rw [show (Kd.fixed kR w).sz = 1 from rfl, Nat.mul_one, List.drop_eq_getElem_cons hi, List.take_succ_cons, List.take_zero, List.getElem_map]
    have : js[i]'(by rw [List.length_map] at hi; exact hi) = j := (List.getElem?_eq_some_iff.1 hji).2
    rw [this, valS_is hcell]
  rw [e]
  exact ⟨A', c', rfl, hlc, hC⟩

def roundK (c l : List (List Int)) (n : Nat) : List (List Int) := (List.range c.length).map fun j => if j < n then new1 c l j else c.getD j []
theorem roundK_zero (c l : List (List Int)) : roundK c l 0 = c := by
  unfold roundK
  refine List.ext_getElem (by simp) fun i h1 h2 => ?_
  simp [h2]
theorem roundK_full (c l : List (List Int)) : roundK c l c.length = roundV c l := by
  unfold roundK roundV
  refine List.map_congr_left fun n hn => ?_
  rw [if_pos (List.mem_range.1 hn)]
theorem roundK_len (c l : List (List Int)) (n : Nat) : (roundK c l n).length = c.length := by simp [roundK]
theorem roundK_at (c l : List (List Int)) (n j : Nat) (hj : j < c.length) : (roundK c l n).getD j [] = if j < n then new1 c l j else c.getD j [] := by
  rw [getD_of_lt _ j [] (by rw [roundK_len]; exact hj)]
  simp [roundK]
theorem roundK_set (c l : List (List Int)) (n : Nat) (hn : n < c.length) : (roundK c l n).set n (new1 c l n) = roundK c l (n + 1) := by
  refine List.ext_getElem (by simp [roundK]) fun i h1 h2 => ?_
  rw [List.getElem_set]
  by_cases e : n = i
  · subst e; rw [if_pos rfl]; simp [roundK]
  · rw [if_neg e]
    simp only [roundK, List.getElem_map, List.getElem_range]
    by_cases h : i < n
    · rw [if_pos h, if_pos (by omega)]
    · rw [if_neg h, if_neg (by omega)]
theorem roundK_skip (c l : List (List Int)) (n : Nat) (hn : n < c.length) (h : mineN c l n = []) : roundK c l (n + 1) = roundK c l n := by
  rw [← roundK_set c l n hn]
  refine List.ext_getElem (by simp) fun i h1 h2 => ?_
  rw [List.getElem_set]
  by_cases e : n = i
  · subst e
    rw [if_pos rfl]
    simp [roundK, new1, h]
  · rw [if_neg e]
theorem mine_is (c l : List (List Int)) (n : Nat) : ((List.range l.length).filter (fun j => decide ((partsV c l).getD j 0 = (n : Int)))).map (fun j => l.getD j []) = mineN c l n := by
  have e : l = (List.range l.length).map (fun j => l.getD j []) := by
    refine List.ext_getElem (by simp) fun i h1 h2 => ?_
    simp [h1]
  have h2 : mineN c l n = mineN c ((List.range l.length).map (fun j => l.getD j [])) n := by rw [← e]
  rw [h2]
  unfold mineN
  rw [List.filter_map]
  congr 1
  refine List.filter_congr fun j hj => ?_
  rw [parts_at c l j (List.mem_range.1 hj)]
  rfl

def means_Round.f (c l : List (List Int)) : Option (List (List Int) × Int) := some (roundR c l)

set_option maxHeartbeats 4000000 in
set_option maxRecDepth 100000 in
theorem means_Round.calls (A : Option Addr) (ca : Nat) (c : List (List Int)) (B : Option Addr) (cb : Nat) (l : List (List Int)) (r1 : List (List Int)) (r2 : Int) (w : World) (hr : Kd.C (Kd.slice 21 (Kd.int .i32)) w A c.length c) (hc : c.length ≤ ca) (hr' : Kd.C (Kd.slice 21 (Kd.int .i32)) w B l.length l) (hc' : l.length ≤ cb) (h : means_Round.f c l = some (r1, r2)) :
    Calls Try.prog 45 #[.slice A c.length ca, .slice B l.length cb] w fun e w' => ∃ v0_ : Value, e = .returned (.tuple #[v0_, .int .i64 r2]) ∧ Kd.R (Kd.slice 21 (Kd.int .i32)) 25 w' w.heap.size (fun _ => True) v0_ r1 ∧ Below w.heap.size w w' := by
  replace h := Option.some.inj h
  unfold roundR at h
  obtain ⟨pp, hpp⟩ : ∃ pp, pp = partsR c l := ⟨_, rfl⟩
  obtain ⟨p1, p2⟩ := pp
  rw [← hpp] at h
  have HPP := Aside0.mk hpp
  have HR := Aside0.mk hr
  have HR' := Aside0.mk hr'
  have HCc := Aside0.mk hc
  have HCl := Aside0.mk hc'
  have hm := Kd.C_max hr
  have hm' := Kd.C_max hr'
  have H := Aside0.mk h
  have HPC := Aside0.mk (means_Parts.calls A ca c B cb l p1 p2 w hr hc hr' hc' (congrArg some hpp.symm))
  clear hr hr' h hpp hc hc'
  refine (callsIn_wide (n := 10)).1 ?_
  refine callsIn_of_wp_marks Try.func45 rfl trivial ?_ rfl
  refine wpIn_wide.2 ?_
  simp only [Try.ntmps45, List.size_toArray, List.length_cons, List.length_nil, Nat.reduceAdd, Nat.reduceSub, Array.replicate_succ, Array.replicate_zero, List.push_toArray, List.append_toArray, List.nil_append, List.cons_append]
  go_wp2_with fail
  refine HPC.out.mono ?_
  rintro e w1 ⟨v1, rfl, ho1, hb1⟩
  have h := H.out
  by_cases hz : p2 = 0
  case neg =>
    simp only [hz, if_false] at h
    obtain ⟨rfl, rfl⟩ := Prod.mk.inj h
    have e3 : (p2 != 0) = true := by rw [bne_iff_ne]; exact hz
    have HB1 := Aside0.mk hb1
    clear h H hz ho1 hb1
    go_wp2_with fail
    exact ⟨_, results_tmp2 rfl _ _ _, _, rfl, Kd.R_nil _ _ _ _ _, HB1.out⟩
  simp only [hz, if_true] at h
  subst hz
  obtain ⟨rfl, rfl⟩ := Prod.mk.inj h
  obtain ⟨⟨hc1, hc2⟩, ⟨hl1, hl2⟩, hae, hpe⟩ := parts_ok (c := c) (l := l) (by rw [← HPP.out])
  obtain rfl : p1 = partsV c l := by rw [← HPP.out] at hpe; exact (Prod.mk.inj hpe).1
  have HAE := Aside0.mk hae
  obtain ⟨PA, pc, rfl, hpl, hPC⟩ := Kd.R_reads ho1
  have HPL := Aside0.mk hPC
  have HB1 := Aside0.mk hb1
  have HOK := Aside0.mk (ok_of_err hae)
  have hshort : c.all (fun v => decide (v.length ≤ 1000000)) = true := List.all_eq_true.2 fun x hx => decide_eq_true (by
    have := (right_len x ((ok_append.1 (ok_of_err hae)).1 x hx).1).2
    omega)
  have HCP := Aside0.mk (copied.calls A ca c c w1 (Kd.C_below HR.out hb1) HCc.out (by
    unfold copied.f
    rw [if_pos ⟨by omega, hshort⟩]))
  clear hshort
  rw [parts_len] at *
  clear h H hpe hae ho1 hb1 hPC HPP
  go_wp2_with fail
  refine HCP.out.mono ?_
  rintro e w2 ⟨v2, rfl, ho2, hb2⟩
  obtain ⟨g, cap, rfl, hg, hgl, cells, hcells⟩ := Kd.R_form ho2 hc1
  have HO2 := Aside0.mk (Kd.R_lower ho2 HB1.out.size)
  have HB2 := Aside0.mk (below_step HB1.out hb2)
  have HB12 := Aside0.mk hb2
  clear hcells ho2 hb2
  go_wp2_with fail
  refine wp_loop (fun a W => ∃ (k : Nat) (ds : List Nat) (u9 u10 u25 u26 u27 u28 u29 u30 u31 u37 u38 u39 u40 u41 u42 u43 u44 u45 u46 u47 u48 u49 u51 : Value),
      (k ≤ c.length ∧ u25 = .int .i64 k ∧ Aside0 (openD w.heap.size W ds) ∧ Aside0 (Kd.R kR 25 W w.heap.size (fun _ => True) (.slice (some ⟨g, 0, none⟩) c.length cap) (roundK c l k)) ∧ Aside0 (Below w1.heap.size w1 W)) ∧
      a = { tmps := #[.slice A c.length ca, .slice B l.length cb, undef, undef, .slice none 0 0, .int .i64 0, .slice PA l.length pc, .int .i64 0, .slice (some ⟨g, 0, none⟩) c.length cap, u9, u10, undef, .tuple #[.slice PA l.length pc, .int .i64 0], .slice A c.length ca, .slice B l.length cb, .tuple #[.slice PA l.length pc, .int .i64 0], .slice PA l.length pc, .int .i64 0, .int .i64 0, .bool false, undef, .slice A c.length ca, .slice (some ⟨g, 0, none⟩) c.length cap, .slice (some ⟨g, 0, none⟩) c.length cap, .int .i64 c.length, u25, u26, u27, u28, u29, u30, u31, undef, undef, undef, undef, undef, u37, u38, u39, u40, u41, u42, u43, u44, u45, u46, u47, u48, u49, undef, u51, undef], defers := marks ds })
    (fun a _ => c.length - (intOf (a.tmps.getD 25 undef)).toNat) ?_ ?_
  · refine ⟨0, [], _, _, _, _, _, _, _, _, _, _, _, _, _, _, _, _, _, _, _, _, _, _, _, ⟨Nat.zero_le _, rfl, ⟨⟨(fun D hD => by cases hD), List.nodup_nil⟩⟩, ⟨by rw [roundK_zero]; exact HO2.out⟩, HB12⟩, rfl⟩
  rintro _ wr ⟨k, ds, u9, u10, u25, u26, u27, u28, u29, u30, u31, u37, u38, u39, u40, u41, u42, u43, u44, u45, u46, u47, u48, u49, u51, ⟨hk, rfl, HD, HO, HB⟩, rfl⟩
  by_cases hlt : k < c.length
  · have hltz : (k : Int) < (c.length : Int) := by omega
    go_wp2_with (go_at_call 67; refine (part_calls B l.length cb PA l.length pc k _).mono ?_; rintro e w' ⟨rfl, rfl⟩)
    have bO := Boxed.new wr 22 (.slice none 0 0)
    have b1 := Boxed.new (wr.alloc (.cells #[.slice none 0 0] 22)) 22 (.slice B l.length cb)
    have b2 := Boxed.new ((wr.alloc (.cells #[.slice none 0 0] 22)).alloc (.cells #[.slice B l.length cb] 22)) 51 (.slice PA l.length pc)
    have b3 := Boxed.new (((wr.alloc (.cells #[.slice none 0 0] 22)).alloc (.cells #[.slice B l.length cb] 22)).alloc (.cells #[.slice PA l.length pc] 51)) 3 (.int .i64 k)
    simp only [World.size_alloc] at b1 b2 b3
    have hBW : Below wr.heap.size wr ((((wr.alloc (.cells #[.slice none 0 0] 22)).alloc (.cells #[.slice B l.length cb] 22)).alloc (.cells #[.slice PA l.length pc] 51)).alloc (.cells #[.int .i64 k] 3)) := ((((Below.refl _ wr).alloc (Nat.le_refl _) _).alloc (by simp) _).alloc (by simp; omega) _).alloc (by simp; omega) _
    have hwr : w.heap.size ≤ wr.heap.size := Nat.le_trans HB1.out.size HB.out.size
    have hB0 : Below w.heap.size w wr := below_step HB1.out HB.out
    have hval : ∀ j, j < l.length → ∃ ad, B = some ad ∧ ¬ (ad.block = wr.heap.size ∨ wr.heap.size + 1 + 1 + 1 + 1 ≤ ad.block) ∧ (((((wr.alloc (.cells #[.slice none 0 0] 22)).alloc (.cells #[.slice B l.length cb] 22)).alloc (.cells #[.slice PA l.length pc] 51)).alloc (.cells #[.int .i64 k] 3))).cell? (ad.add j) = some (valS w B j) := by
      intro j hj
      obtain ⟨ad, A', c', rfl, hcell, hlc, hC⟩ := C_row HR'.out j hj
      have hlt2 := World.block_lt_of_cell? w _ hcell
      rw [valS_is hcell]
      rw [block_add] at hlt2
      refine ⟨ad, rfl, by omega, ?_⟩
      have h1 := (hB0.cell (World.block_lt_of_cell? w _ hcell)).trans hcell
      exact (hBW.cell (World.block_lt_of_cell? wr _ h1)).trans h1
    have hpar : ∀ j, j < l.length → ∃ ad, PA = some ad ∧ ¬ (ad.block = wr.heap.size ∨ wr.heap.size + 1 + 1 + 1 + 1 ≤ ad.block) ∧ (((((wr.alloc (.cells #[.slice none 0 0] 22)).alloc (.cells #[.slice B l.length cb] 22)).alloc (.cells #[.slice PA l.length pc] 51)).alloc (.cells #[.int .i64 k] 3))).cell? (ad.add j) = some (.int .i64 ((partsV c l).getD j 0)) := by
      intro j hj
      have hP := Kd.C_below HPL.out HB.out
      obtain ⟨ad, rfl, hcell⟩ := C_byte' (by rw [parts_len]; exact hP) j (by rw [parts_len]; exact hj)
      have hlt2 := World.block_lt_of_cell? wr _ hcell
      have h1 := (hBW.cell hlt2).trans hcell
      rw [block_add] at hlt2
      exact ⟨ad, rfl, by omega, h1⟩
    obtain ⟨i0, hi, hz0, hz1, hz2⟩ := info_parts info_row
    refine (wpIn_wide (n := 10)).1 ?_
    refine wpIn_rangeFunc_ownG (F := Fence.wide) rfl (by omega) (gf := 80) (lb := #[.pointer (some ⟨wr.heap.size + 1, 0, none⟩), .pointer (some ⟨wr.heap.size + 1 + 1, 0, none⟩), .pointer (some ⟨wr.heap.size + 1 + 1 + 1, 0, none⟩)]) rfl trivial (enters_of Try.func80 (by kernel_rfl) rfl)
      (part_stops 9 (wr.heap.size + 1) (wr.heap.size + 1 + 1) (wr.heap.size + 1 + 1 + 1) (fun b => b = wr.heap.size ∨ wr.heap.size + 1 + 1 + 1 + 1 ≤ b) B l.length cb PA pc (fun j => (partsV c l).getD j 0) (valS w B) k _ ((b1.alloc _).alloc _).cell (b2.alloc _).cell b3.cell (by omega) (by omega) hval hpar (by omega))
      (fun h k => h.then_ k (fun _ h => .inl h)) (fun W y o o' hy hW ho _ => Kept.of_grown (grownBy_putObj' W y o') (Kept.refl W _) (fun q e => by cases e; exact .inl (.inr (by simp at hy; omega)))) (Below.refl _ _) (fun _ => rfl)
      (fun pre W => (∃ v, Boxed W wr.heap.size 22 v ∧ W.ownsRow (wr.heap.size + 1 + 1 + 1 + 1) 25 1 v pre.length (pre.map (valS w B)) ∧ True) ∧ (Below wr.heap.size wr W ∧ wr.heap.size + 1 + 1 + 1 + 1 ≤ W.heap.size))
      (fun _ _ _ => False)
      (OwnFrom.and (Own.from (holdsRow_own _ _ _ _ _ (fun pre : List Nat => pre.length) (fun pre => pre.map (valS w B)) (fun _ _ => True)) _) (OwnFrom.and (ownFrom_below (Nat.le_refl _) (by simp; omega)) (fun s A B row hs hg hr => Nat.le_trans hs hg.size)))
      (fun _ _ _ _ _ hs _ _ => hs)
      ⟨⟨_, ((bO.alloc _).alloc _).alloc _, World.ownsRow_nil _ _ _ _, trivial⟩, hBW, by simp⟩
      (fun x => { tmps := #[.slice A c.length ca, .slice B l.length cb, undef, undef, .slice none 0 0, .int .i64 0, .slice PA l.length pc, .int .i64 0, .slice (some ⟨g, 0, none⟩) c.length cap, .int .i64 k, .pointer (some ⟨wr.heap.size, 0, none⟩), valS w B x, .tuple #[.slice PA l.length pc, .int .i64 0], .slice A c.length ca, .slice B l.length cb, .tuple #[.slice PA l.length pc, .int .i64 0], .slice PA l.length pc, .int .i64 0, .int .i64 0, .bool false, undef, .slice A c.length ca, .slice (some ⟨g, 0, none⟩) c.length cap, .slice (some ⟨g, 0, none⟩) c.length cap, .int .i64 c.length, .int .i64 k, .bool true, .int .i64 k, .slice B l.length cb, .slice PA l.length pc, .int .i64 k, .func (.func 80) #[] #[.pointer (some ⟨wr.heap.size + 1, 0, none⟩), .pointer (some ⟨wr.heap.size + 1 + 1, 0, none⟩), .pointer (some ⟨wr.heap.size + 1 + 1 + 1, 0, none⟩)], valS w B x, undef, undef, undef, undef, u37, u38, u39, u40, u41, u42, u43, u44, u45, u46, u47, u48, u49, undef, u51, undef], defers := [] }) ?assign ?body ?done ?stop
    case assign =>
      intro y x W K hK
      gi_wp2
      exact hK
    case body =>
      rintro y pre x W ⟨⟨v, hv, hrow, _⟩, hB, hsz⟩ hlen
      have hvc := hv.cell
      have HS := Aside0.mk (show (pre ++ [x]).map (valS w B) = pre.map (valS w B) ++ [valS w B x] by simp)
      have HSL := Aside0.mk (show (pre ++ [x]).length = pre.length + 1 by simp)
      obtain ⟨Aw, nw, cw, hu⟩ : ∃ A0 n0 c0, valS w B x = .slice A0 n0 c0 := ⟨_, _, _, rfl⟩
      rw [hu] at HS
      simp only [hu]
      clear hu
      gi_wp2_with (gi_at_builtin; refine wpListIn_append_own _ rfl _ _ 22 rfl (wr.heap.size + 1 + 1 + 1 + 1) 25 i0 (.slice none 0 0) 1 24 Try.underlying22 hi hz0 hz1 hz2 rfl (by decide) _ _ _ rfl (hrow.alloc _) ⟨W.heap.size, 0, none⟩ 1 1 [.slice Aw nw cw] rfl rfl (cell_one_new _ _ _) (by simp [Value.oneCell']) (by unfold maxLen; omega) (by omega) (by simp; omega) ?_; intro v' w1' hown' hgrow _; obtain ⟨g', cap', rfl⟩ := ownsRow_succ hown'; obtain ⟨hv1, hv2, hr2, hk2, hb2, hkp2⟩ := appended2 hv (by decide) hrow hsz (by omega) hown' hgrow; have hc1 := hv1.cell; have hf1 := hv1.frozen)
      refine ⟨hk2.from _, hkp2, ⟨⟨_, hv2, by rw [HS.out, HSL.out]; exact hr2, trivial⟩, hB.trans hb2, Nat.le_trans hsz hk2.size⟩⟩
    case done =>
      rintro D ys W hD rfl ⟨⟨v, hv, hrow, _⟩, hBW', hsz⟩ hK
      simp only [World.size_alloc] at hD
      have hRO := R_of_own HR'.out _ (fun j hj => by have := (List.mem_filter.1 hj).1; rwa [List.mem_range] at this) hrow
      rw [mine_is] at hRO
      obtain ⟨A', c', rfl, hlen', hC'⟩ := Kd.R_reads hRO
      have hBwW := below_step hB0 hBW'
      have HC' := Aside0.mk (ReadsRow.imp_ hC' (Below.refl _ _) (fun _ _ hp => kR.K_below hBwW hp) : Kd.C kR W A' (mineN c l k).length (mineN c l k))
      have HL' := Aside0.mk hlen'
      have q0 := hv.cell
      have HDD := Aside0.mk (HD.out.cons hBW' (by omega) (by omega) hK)
      have hOW := Kd.R_below HO.out hBW'
      have HOW := Aside0.mk hOW
      have HB1W := Aside0.mk (HB.out.trans (hBW'.mono HB.out.size))
      have hml := mine_len c l k
      have HM := Aside0.mk (mine_ok (c := c) (n := k) (ok_append.1 HOK.out).2)
      have HK0 := Aside0.mk (fun h => roundK_skip c l k hlt h)
      have HK1 := Aside0.mk (roundK_set c l k hlt)
      have HNW := Aside0.mk (show new1 c l k = if mineN c l k = [] then c.getD k [] else meanV (mineN c l k) from rfl)
      obtain ⟨cs, hcl, hM, hcell, hfr⟩ := Kd.R_elem hOW [] (k : Int) (by omega) (by omega)
      rw [Int.toNat_natCast] at hM hcell hfr
      obtain ⟨A6, c6, rfl, hl6, hC6⟩ := kR.K_of_M hM
      have q1 : W.cell? ⟨g, k, none⟩ = some (.slice A6 ((roundK c l k).getD k []).length c6) := by
        have := hcell 0 _ rfl
        rwa [show kR.sz = 1 from rfl, Nat.mul_one, Nat.add_zero] at this
      have f1 : W.frozen? ⟨g, k, none⟩ = false := by
        have := hfr 0
        rwa [show kR.sz = 1 from rfl, Nat.mul_one, Nat.add_zero] at this
      clear hRO hrow hC' hlen' hv hOW hval hpar bO b1 b2 b3 hBW hl6 hC6 hM hfr hK
      by_cases hm0 : mineN c l k = []
      · have HKs := Aside0.mk (HK0.out hm0)
        rw [hm0, List.length_nil] at q0
        clear hm0 HNW HC' hml HM q1 f1 hcell
        go_wp2_with fail
        refine ⟨⟨k + 1, D :: ds, _, _, _, _, _, _, _, _, _, _, _, _, _, _, _, _, _, _, _, _, _, _, _, ⟨hlt, by go_num, HDD, ⟨by rw [HKs.out]; exact HOW.out⟩, HB1W⟩, rfl⟩, ?_⟩
        show c.length - (intOf (.int .i64 ((k : Int) + 1))).toNat < c.length - (intOf (.int .i64 (k : Int))).toNat
        simp [intOf]
        omega
      · have hm1 : 0 < (mineN c l k).length := List.length_pos_iff.2 hm0
        have HNW2 := Aside0.mk (by have := HNW.out; rwa [if_neg hm0] at this : new1 c l k = meanV (mineN c l k))
        have HMC := Aside0.mk (vec_Mean.calls A' c' (mineN c l k) (meanV (mineN c l k)) 0 W HC'.out HL'.out (by
          unfold vec_Mean.f meanR
          rw [if_pos (by omega), if_neg (by omega), if_pos (err_of_ok HM.out)]))
        clear HNW HK0 hm0
        have HCC := Aside0.mk hcell
        clear hcell
        generalize (mineN c l k).length = mn at *
        generalize ((roundK c l k).getD k []).length = n6 at *
        go_wp2_with fail
        refine HMC.out.mono ?_
        rintro e w5 ⟨v5, rfl, ho5, hb5⟩
        obtain ⟨A5, c5, rfl⟩ := Kd.R_slice ho5
        have HW5 := Aside0.mk (Kd.R_below HOW.out hb5)
        have HO5 := Aside0.mk ho5
        have HB5 := Aside0.mk (below_step hBwW hb5)
        have HB15 := Aside0.mk (HB1W.out.trans (hb5.mono HB1W.out.size))
        have HD5 := Aside0.mk (HDD.out.below hb5)
        have hgw : g < W.heap.size := World.block_lt_of_cell? W _ q1
        have q2 : w5.cell? ⟨g, k, none⟩ = some (.slice A6 n6 c6) := (hb5.cell (p := ⟨g, k, none⟩) hgw).trans q1
        have f2 : w5.frozen? ⟨g, k, none⟩ = false := (hb5.frozen (p := ⟨g, k, none⟩) hgw).trans f1
        have HSEG := Aside0.mk (Kd.R_seg (d := kR) (seg := [.slice A5 (meanV (mineN c l k)).length c5]) (j := 0) (okp := fun k => w.heap.size ≤ k ∧ W.heap.size ≤ k) (x' := meanV (mineN c l k)) HW5.out (k : Int) (by omega) (by omega) hcl (fun j u hu => by
            have := HCC.out j u hu
            exact (hb5.cell (p := ⟨g, k * kR.sz + j, none⟩) hgw).trans this) (show 0 + 1 ≤ 1 by decide) (by
            exact ⟨_, rfl, Kd.R_mono (Kd.R_lower (Kd.R_bound HO5.out) hBwW.size) (fun k hk => ⟨Nat.le_trans hBwW.size hk.2.1, hk.2.1⟩)⟩) (fun k hk => ⟨trivial, by omega⟩))
        clear hb5 ho5 q1 f1
        go_wp2_with fail
        have HF := Aside0.mk (by have := HSEG.out.1; rw [Int.toNat_natCast, ← HNW2.out, HK1.out, show kR.sz = 1 from rfl, Nat.mul_one, Nat.add_zero, HNW2.out] at this; exact this : Kd.R kR 25 (w5.setCell ⟨g, k, none⟩ (.slice A5 (meanV (mineN c l k)).length c5)) w.heap.size (fun _ => True) (.slice (some ⟨g, 0, none⟩) c.length cap) (roundK c l (k + 1)))
        have HBF := Aside0.mk (HB15.out.setCell (p := ⟨g, k, none⟩) hg (.slice A5 (meanV (mineN c l k)).length c5))
        have HDF := Aside0.mk (HD5.out.set g k (.slice A5 (meanV (mineN c l k)).length c5))
        refine ⟨⟨k + 1, D :: ds, _, _, _, _, _, _, _, _, _, _, _, _, _, _, _, _, _, _, _, _, _, _, _, ⟨hlt, by go_num, HDF, HF, HBF⟩, rfl⟩, ?_⟩
        show c.length - (intOf (.int .i64 ((k : Int) + 1))).toNat < c.length - (intOf (.int .i64 (k : Int))).toNat
        simp [intOf]
        omega
    case stop =>
      rintro D c pre W _ _ h _
      exact h.elim
  · obtain rfl : k = c.length := by omega
    rw [roundK_full] at HO
    have HBF := Aside0.mk (below_step HB1.out HB.out)
    go_wp2_with fail
    exact leavesM w rfl (fun w' hr hb => ⟨_, results_tmp2 rfl _ _ _, _, rfl, hr, hb⟩) ds wr HD.out HO.out HBF.out
end

end Go.Proofs.Ytbdoeikdoohagaa.G
