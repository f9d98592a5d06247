/- A region that draws its order, whose operations only read, and whose callees may make memory of their own: walked once. No program's text is spoken of. Contract of slices.insertionSortCmpFunc over cells, whatever the closure. -/
import Derived.Deep.QuietTactic
import Derived.Test.YtoblkjdiahoplaaA3
import Derived.Deep.RegionWith
import Derived.Deep.CutRange
import Derived.Deep.DeepCutAuto
namespace Go.Proofs.Ytoblkjdiahoplaa.G
open Go.Shelf Go.RowKit Go.Proofs.YtoblkjdiahoplaaW.PrintWords Go.Proofs.YtoblkjdiahoplaaW.PrintLast Go.Proofs.YtoblkjdiahoplaaW.PrintMore
set_option linter.unusedVariables false
set_option linter.unusedSimpArgs false

section
/-- A world in which what lay in w0 lies as it lay. -/
structure Gr (w0 : World) where
  w : World
  h : Below w0.heap.size w0 w
instance (w0 : World) : Inhabited (Gr w0) := ⟨⟨w0, Below.refl _ _⟩⟩
theorem wp_region_gr {P : Program} {id : Nat} {Q : Exit → Act → World → Prop} {a : Act} {w : World} {l : List Oper} (hm : P.follows .mixedOrders = true) (hB : Region.lexB .any l.toArray = true)
    (h : wpQuiet P l.toArray (fun w' => ∃ p : Gr w, w' = p.w) (fun a' => ∀ w', (∃ p : Gr w, w' = p.w) → Q .normal a' w') l a) : (Code.region id l.toArray true).wp P Q a w :=
  wp_region_quiet (C := fun w' => ∃ p : Gr w, w' = p.w) hm hB ⟨⟨w.drew, below_drew1 (Below.refl _ _)⟩, rfl⟩ (by simpa using h)
theorem Gr.cell {w0 : World} {a : Addr} {v : Value} (h : w0.cell? a = some v) (p : Gr w0) : p.w.cell? a = some v := (p.h.cell (World.block_lt_of_cell? w0 _ h)).trans h
theorem Calls.gr_of {P : Program} {f : FuncId} {args : Array Value} {w0 : World} {p : Gr w0} {v : Value}
    (h : Calls P f args p.w fun e w' => e = .returned v ∧ Below p.w.heap.size p.w w') : Calls P f args p.w fun e w'' => e = .returned v ∧ ∃ q : Gr w0, w'' = q.w :=
  h.mono fun _ w'' ⟨he, hb⟩ => ⟨he, ⟨w'', below_step p.h hb⟩, rfl⟩
end

section
abbrev zC : Cell := P.z36
abbrev cV (x : Cell) (A : Option Addr) (c : Nat) : Value := .agg #[.bool x.f0, .int .u64 x.f1, .int .u64 x.f2.f0, .int .u64 x.f2.f1, .slice A x.f2.f2.length c]
/-- Two cells that stand side by side change their places. -/
def swp (xs : List Cell) (j : Nat) : List Cell := (xs.set (j + 1) (xs.getD j zC)).set j (xs.getD (j + 1) zC)
theorem swp_len (xs : List Cell) (j : Nat) : (swp xs j).length = xs.length := by simp [swp]
def insIn (cf : Cell → Cell → Int) (a : Nat) : Nat → List Cell → List Cell
  | 0, xs => xs
  | j + 1, xs => if a < j + 1 ∧ cf (xs.getD (j + 1) zC) (xs.getD j zC) < 0 then insIn cf a j (swp xs j) else xs
def insOut (cf : Cell → Cell → Int) (a b : Nat) (xs : List Cell) : List Cell := (List.range' (a + 1) (b - (a + 1))).foldl (fun ys i => insIn cf a i ys) xs
theorem insIn_stop (cf : Cell → Cell → Int) (a : Nat) (xs : List Cell) : insIn cf a a xs = xs := by
  cases a with
  | zero => rfl
  | succ a => rw [insIn, if_neg (fun h => Nat.lt_irrefl _ h.1)]
/-- What remains from i on. -/
def insFrom (cf : Cell → Cell → Int) (a b i : Nat) (xs : List Cell) : List Cell := (List.range' i (b - i)).foldl (fun ys i => insIn cf a i ys) xs
theorem insFrom_step (cf : Cell → Cell → Int) (a b i : Nat) (xs : List Cell) (h : i < b) : insFrom cf a b i xs = insFrom cf a b (i + 1) (insIn cf a i xs) := by
  unfold insFrom
  rw [show b - i = (b - (i + 1)) + 1 by omega, List.range'_succ, List.foldl_cons]
theorem insFrom_end (cf : Cell → Cell → Int) (a b i : Nat) (xs : List Cell) (h : b ≤ i) : insFrom cf a b i xs = xs := by
  unfold insFrom
  rw [show b - i = 0 by omega]
  rfl
/-- What the walk needs of a cell of an own row. -/
theorem own_cell {W : World} {base g n cap : Nat} {ok : Nat → Prop} {xs : List Cell} (h : Kd.N kC 36 W base ok (.slice (some ⟨g, 0, none⟩) n cap) xs) (j : Nat) (hj : j < n) :
    ∃ A c, Kd.FK kC W (fun k => ok k ∧ k ≠ g) (xs.getD j zC) [.bool (xs.getD j zC).f0, .int .u64 (xs.getD j zC).f1, .int .u64 (xs.getD j zC).f2.f0, .int .u64 (xs.getD j zC).f2.f1, .slice A (xs.getD j zC).f2.f2.length c] ∧
      W.cell? ⟨g, j * 5, none⟩ = some (.bool (xs.getD j zC).f0) ∧ W.cell? ⟨g, j * 5 + 1, none⟩ = some (.int .u64 (xs.getD j zC).f1) ∧ W.cell? ⟨g, j * 5 + 2, none⟩ = some (.int .u64 (xs.getD j zC).f2.f0) ∧ W.cell? ⟨g, j * 5 + 3, none⟩ = some (.int .u64 (xs.getD j zC).f2.f1) ∧ W.cell? ⟨g, j * 5 + 4, none⟩ = some (.slice A (xs.getD j zC).f2.f2.length c) ∧
      W.frozen? ⟨g, j * 5, none⟩ = false ∧ W.frozen? ⟨g, j * 5 + 1, none⟩ = false ∧ W.frozen? ⟨g, j * 5 + 2, none⟩ = false ∧ W.frozen? ⟨g, j * 5 + 3, none⟩ = false ∧ W.frozen? ⟨g, j * 5 + 4, none⟩ = false := by
  obtain ⟨c, hcl, hF, hcc, hfr⟩ := Kd.N_elem h zC (j : Int) (by omega) (by omega)
  rw [Int.toNat_natCast] at hF hcc hfr
  obtain ⟨A4, c4, rfl, _, _⟩ := P.k36_openF hF
  exact ⟨A4, c4, hF, hcc 0 _ rfl, hcc 1 _ rfl, hcc 2 _ rfl, hcc 3 _ rfl, hcc 4 _ rfl, hfr 0, hfr 1, hfr 2, hfr 3, hfr 4⟩

abbrev cL (x : Cell) (A : Option Addr) (c : Nat) : List Value := [.bool x.f0, .int .u64 x.f1, .int .u64 x.f2.f0, .int .u64 x.f2.f1, .slice A x.f2.f2.length c]
theorem fk_vec {W : World} {ok : Nat → Prop} {x : Cell} {A : Option Addr} {c : Nat} (h : Kd.FK kC W ok x (cL x A c)) : x.f2.f2.length ≤ c ∧ Kd.C (Kd.int .i32) W A x.f2.f2.length x.f2.f2 := by
  obtain ⟨A4, c4, he, hl, hC⟩ := P.k36_open (Kd.FK_now h)
  simp only [cL, List.cons.injEq, Value.slice.injEq, true_and, and_true] at he
  obtain ⟨rfl, rfl⟩ := he
  exact ⟨hl, hC⟩
/-- A cell is written over. -/
theorem put_cell {W : World} {base g n cap : Nat} {ok : Nat → Prop} {xs : List Cell} (h : Kd.N kC 36 W base ok (.slice (some ⟨g, 0, none⟩) n cap) xs) (j : Nat) (hj : j < n) {x : Cell} {A : Option Addr} {c : Nat} (hx : Kd.FK kC W (fun k => ok k ∧ k ≠ g) x (cL x A c)) :
    Kd.N kC 36 (((((W.setCell ⟨g, j * 5, none⟩ (.bool x.f0)).setCell ⟨g, j * 5 + 1, none⟩ (.int .u64 x.f1)).setCell ⟨g, j * 5 + 2, none⟩ (.int .u64 x.f2.f0)).setCell ⟨g, j * 5 + 3, none⟩ (.int .u64 x.f2.f1)).setCell ⟨g, j * 5 + 4, none⟩ (.slice A x.f2.f2.length c)) base ok (.slice (some ⟨g, 0, none⟩) n cap) (xs.set j x) ∧
    W.grownBy (((((W.setCell ⟨g, j * 5, none⟩ (.bool x.f0)).setCell ⟨g, j * 5 + 1, none⟩ (.int .u64 x.f1)).setCell ⟨g, j * 5 + 2, none⟩ (.int .u64 x.f2.f0)).setCell ⟨g, j * 5 + 3, none⟩ (.int .u64 x.f2.f1)).setCell ⟨g, j * 5 + 4, none⟩ (.slice A x.f2.f2.length c)) (some g) := by
  obtain ⟨d, hdl, _, hcc, _⟩ := Kd.N_elem h zC (j : Int) (by omega) (by omega)
  have := Kd.N_seg h (j : Int) (by omega) (by omega) (c := d) (seg := cL x A c) (j := 0) (x' := x) (okp := fun k => ok k ∧ k ≠ g) hdl hcc (by show 0 + 5 ≤ 5; omega) (by
    have e : d.take 0 ++ cL x A c ++ d.drop (0 + (cL x A c).length) = cL x A c := by
      rw [List.take_zero, List.nil_append, List.drop_eq_nil_of_le (by rw [hdl]; show 5 ≤ 0 + 5; omega), List.append_nil]
    rw [e]; exact hx) (fun k hk => hk)
  rw [Int.toNat_natCast] at this
  exact this
theorem swap_N {W : World} {base g n cap : Nat} {ok : Nat → Prop} {xs : List Cell} (h : Kd.N kC 36 W base ok (.slice (some ⟨g, 0, none⟩) n cap) xs) (j : Nat) (hj : j + 1 < n) {x y : Cell} {A B : Option Addr} {c d : Nat} (hx : Kd.FK kC W (fun k => ok k ∧ k ≠ g) x (cL x A c)) (hy : Kd.FK kC W (fun k => ok k ∧ k ≠ g) y (cL y B d)) :
    Kd.N kC 36 ((((((((((W.setCell ⟨g, (j + 1) * 5, none⟩ (.bool y.f0)).setCell ⟨g, (j + 1) * 5 + 1, none⟩ (.int .u64 y.f1)).setCell ⟨g, (j + 1) * 5 + 2, none⟩ (.int .u64 y.f2.f0)).setCell ⟨g, (j + 1) * 5 + 3, none⟩ (.int .u64 y.f2.f1)).setCell ⟨g, (j + 1) * 5 + 4, none⟩ (.slice B y.f2.f2.length d)).setCell ⟨g, j * 5, none⟩ (.bool x.f0)).setCell ⟨g, j * 5 + 1, none⟩ (.int .u64 x.f1)).setCell ⟨g, j * 5 + 2, none⟩ (.int .u64 x.f2.f0)).setCell ⟨g, j * 5 + 3, none⟩ (.int .u64 x.f2.f1)).setCell ⟨g, j * 5 + 4, none⟩ (.slice A x.f2.f2.length c)) base ok (.slice (some ⟨g, 0, none⟩) n cap) ((xs.set (j + 1) y).set j x) ∧
    Fr (· = g) W ((((((((((W.setCell ⟨g, (j + 1) * 5, none⟩ (.bool y.f0)).setCell ⟨g, (j + 1) * 5 + 1, none⟩ (.int .u64 y.f1)).setCell ⟨g, (j + 1) * 5 + 2, none⟩ (.int .u64 y.f2.f0)).setCell ⟨g, (j + 1) * 5 + 3, none⟩ (.int .u64 y.f2.f1)).setCell ⟨g, (j + 1) * 5 + 4, none⟩ (.slice B y.f2.f2.length d)).setCell ⟨g, j * 5, none⟩ (.bool x.f0)).setCell ⟨g, j * 5 + 1, none⟩ (.int .u64 x.f1)).setCell ⟨g, j * 5 + 2, none⟩ (.int .u64 x.f2.f0)).setCell ⟨g, j * 5 + 3, none⟩ (.int .u64 x.f2.f1)).setCell ⟨g, j * 5 + 4, none⟩ (.slice A x.f2.f2.length c)) := by
  obtain ⟨h1, g1⟩ := put_cell h (j + 1) hj hy
  have hx1 := Kd.FK_step hx (fun k hk hlt => g1.block k hlt (fun e => hk.2 (by injection e)))
  obtain ⟨h2, g2⟩ := put_cell h1 j (by omega) hx1
  exact ⟨h2, (Fr.of_grown (S := (· = g)) g1 (fun k e => .inl (by injection e with e; exact e.symm))).grown g2 (fun k e => .inl (by injection e with e; exact e.symm))⟩

set_option maxHeartbeats 4000000 in
set_option maxRecDepth 100000 in
theorem ins_go (g n cap a b : Nat) (xs : List Cell) (K : Nat) (lb : Array Value) (cf : Cell → Cell → Int) (base : Nat) (ok : Nat → Prop) (w : World) (hN : Kd.N kC 36 w base ok (.slice (some ⟨g, 0, none⟩) n cap) xs) (hb : b ≤ n) (hn : n ≤ 1000000) (ha : a ≤ 1000000)
    (eg : ∀ args w, (callFunc K args).run Try.prog w = .ok (.enter K args) w)
    (hcmp : ∀ (x y : Cell) (A : Option Addr) (c : Nat) (B : Option Addr) (d : Nat) W, x.f2.f2.length ≤ c → Kd.C (Kd.int .i32) W A x.f2.f2.length x.f2.f2 → y.f2.f2.length ≤ d → Kd.C (Kd.int .i32) W B y.f2.f2.length y.f2.f2 → Calls Try.prog K (#[cV x A c, cV y B d] ++ lb) W fun e w' => e = .returned (.int .i64 (cf x y)) ∧ Below W.heap.size W w') :
    Calls Try.prog 63 #[.slice (some ⟨g, 0, none⟩) n cap, .int .i64 (a : Int), .int .i64 (b : Int), .func (.func K) #[] lb] w fun e w' => e = .returned (.tuple #[]) ∧ Kd.N kC 36 w' base ok (.slice (some ⟨g, 0, none⟩) n cap) (insOut cf a b xs) ∧ Fr (· = g) w w' := by
  have HN0 := Aside0.mk hN
  have HC := Aside0.mk hcmp
  have HF0 := Aside0.mk (Fr.refl (· = g) w)
  clear hN hcmp
  by_cases hab : a < b
  case neg =>
    have hz : ¬ (a : Int) + 1 < (b : Int) := by omega
    have he : insOut cf a b xs = xs := insFrom_end cf a b (a + 1) xs (by omega)
    rw [he]
    clear he
    go_enter Try.func63, Try.ntmps63
    go_wp2_with fail
    refine wp_loop_rounds 1 ?_
    rw [rounds_succ]
    go_wp2_with fail
    go_end0
    exact ⟨rfl, HN0.out, HF0.out⟩
  go_enter Try.func63, Try.ntmps63
  go_wp2
  go_loopg [8, 9] (b - a) (fun gg v8 _ wr => ∃ (i : Nat) (ys : List Cell), v8 = .int .i64 (i : Int) ∧ a < i ∧ i ≤ b + 1 ∧ b + 1 - i ≤ gg + 1 ∧ Aside0 (Kd.N kC 36 wr base ok (.slice (some ⟨g, 0, none⟩) n cap) ys) ∧ Aside0 (Fr (· = g) w wr) ∧ Aside0 (insFrom cf a b i ys = insOut cf a b xs))
  case atStart => exact ⟨a + 1, xs, by go_num, by omega, by omega, by omega, HN0, HF0, ⟨rfl⟩⟩
  case round =>
    obtain ⟨i, ys, rfl, hai, hib, hg1, HNi, HFi, HIi⟩ := hrel
    by_cases hlt : i < b
    · have hltz : (i : Int) < (b : Int) := by omega
      go_wp2
      go_loopg [9] i (fun g2 vj wr2 => ∃ (j : Nat) (zs : List Cell), vj = .int .i64 (j : Int) ∧ a ≤ j ∧ j ≤ i ∧ j ≤ g2 ∧ Aside0 (Kd.N kC 36 wr2 base ok (.slice (some ⟨g, 0, none⟩) n cap) zs) ∧ Aside0 (Fr (· = g) w wr2) ∧ Aside0 (insIn cf a j zs = insIn cf a i ys))
      case atStart => exact ⟨i, ys, rfl, by omega, Nat.le_refl _, Nat.le_refl _, HNi, HFi, ⟨rfl⟩⟩
      case round =>
        obtain ⟨j, zs, rfl, haj, hji, hg2, HNj, HFj, HIj⟩ := hrel
        by_cases hja : a < j
        · obtain ⟨jp, rfl⟩ : ∃ jp, j = jp + 1 := ⟨j - 1, by omega⟩
          obtain ⟨A1, c1, hF1, q0, q1, q2, q3, q4, z0, z1, z2, z3, z4⟩ := own_cell HNj.out (jp + 1) (by omega)
          obtain ⟨A2, c2, hF2, p0, p1, p2, p3, p4, y0, y1, y2, y3, y4⟩ := own_cell HNj.out jp (by omega)
          have hst : insIn cf a (jp + 1) zs = if a < jp + 1 ∧ cf (zs.getD (jp + 1) zC) (zs.getD jp zC) < 0 then insIn cf a jp (swp zs jp) else zs := rfl
          rw [hst] at HIj
          have hcall := fun (p : Gr wr) => HC.out (zs.getD (jp + 1) zC) (zs.getD jp zC) A1 c1 A2 c2 p.w (fk_vec hF1).1 (Kd.C_below (fk_vec hF1).2 p.h) (fk_vec hF2).1 (Kd.C_below (fk_vec hF2).2 p.h)
          have hsw : swp zs jp = (zs.set (jp + 1) (zs.getD jp zC)).set jp (zs.getD (jp + 1) zC) := rfl
          have HF1 := Aside0.mk hF1
          have HF2 := Aside0.mk hF2
          clear hF1 hF2 hst
          have HSW := Aside0.mk hsw
          clear hsw
          generalize zs.getD (jp + 1) zC = x at *
          generalize zs.getD jp zC = y at *
          generalize swp zs jp = zs2 at *
          have hwp : IntKind.i64.wrap (jp : Int) = (jp : Int) := by rw [IntKind.wrap_i64]; omega
          have jz : (jp : Int) + 1 < (n : Int) := by omega
          have jz1 : (jp : Int) < (n : Int) := by omega
          have hjaz' : (a : Int) < (jp : Int) + 1 := by omega
          have jp0 : (0 : Int) ≤ (jp : Int) + 1 := by omega
          have je0 : ((jp : Int) + 1).toNat = jp + 1 := by omega
          by_cases hlv : cf x y < 0
          · rw [if_pos ⟨hja, hlv⟩] at HIj
            have HCA := Aside0.mk hcall
            have hlv2 : decide (cf x y < 0) = true := decide_eq_true hlv
            have HLV := Aside0.mk hlv
            clear hcall hlv
            generalize cf x y = v at *
            obtain ⟨wo, rfl⟩ : ∃ wo, wo = wr := ⟨_, rfl⟩
            go_wp2_with fail
            have Q0 := fun p => Gr.cell q0 p
            have Q1 := fun p => Gr.cell q1 p
            have Q2 := fun p => Gr.cell q2 p
            have Q3 := fun p => Gr.cell q3 p
            have Q4 := fun p => Gr.cell q4 p
            have P0 := fun p => Gr.cell p0 p
            have P1 := fun p => Gr.cell p1 p
            have P2 := fun p => Gr.cell p2 p
            have P3 := fun p => Gr.cell p3 p
            have P4 := fun p => Gr.cell p4 p
            refine wp_region_gr (by kernel_rfl) (by kernel_rfl) ?_
            repeat (quiet_step ((go_at_fn K; exact Calls.gr_of (HCA.out _))))
            refine wpQuiet_nil ?_
            intro w3 hw'
            have hb3 : Below wo.heap.size wo w3 := by obtain ⟨p, rfl⟩ := hw'; exact p.h
            clear hw' Q0 Q1 Q2 Q3 Q4 P0 P1 P2 P3 P4
            have lg := World.block_lt_of_cell? wo _ q0
            replace q0 := (hb3.cell (p := ⟨g, (jp + 1) * 5, none⟩) lg).trans q0
            replace q1 := (hb3.cell (p := ⟨g, (jp + 1) * 5 + 1, none⟩) lg).trans q1
            replace q2 := (hb3.cell (p := ⟨g, (jp + 1) * 5 + 2, none⟩) lg).trans q2
            replace q3 := (hb3.cell (p := ⟨g, (jp + 1) * 5 + 3, none⟩) lg).trans q3
            replace q4 := (hb3.cell (p := ⟨g, (jp + 1) * 5 + 4, none⟩) lg).trans q4
            replace p0 := (hb3.cell (p := ⟨g, jp * 5, none⟩) lg).trans p0
            replace p1 := (hb3.cell (p := ⟨g, jp * 5 + 1, none⟩) lg).trans p1
            replace p2 := (hb3.cell (p := ⟨g, jp * 5 + 2, none⟩) lg).trans p2
            replace p3 := (hb3.cell (p := ⟨g, jp * 5 + 3, none⟩) lg).trans p3
            replace p4 := (hb3.cell (p := ⟨g, jp * 5 + 4, none⟩) lg).trans p4
            replace z0 := (hb3.frozen (p := ⟨g, (jp + 1) * 5, none⟩) lg).trans z0
            replace z1 := (hb3.frozen (p := ⟨g, (jp + 1) * 5 + 1, none⟩) lg).trans z1
            replace z2 := (hb3.frozen (p := ⟨g, (jp + 1) * 5 + 2, none⟩) lg).trans z2
            replace z3 := (hb3.frozen (p := ⟨g, (jp + 1) * 5 + 3, none⟩) lg).trans z3
            replace z4 := (hb3.frozen (p := ⟨g, (jp + 1) * 5 + 4, none⟩) lg).trans z4
            replace y0 := (hb3.frozen (p := ⟨g, jp * 5, none⟩) lg).trans y0
            replace y1 := (hb3.frozen (p := ⟨g, jp * 5 + 1, none⟩) lg).trans y1
            replace y2 := (hb3.frozen (p := ⟨g, jp * 5 + 2, none⟩) lg).trans y2
            replace y3 := (hb3.frozen (p := ⟨g, jp * 5 + 3, none⟩) lg).trans y3
            replace y4 := (hb3.frozen (p := ⟨g, jp * 5 + 4, none⟩) lg).trans y4
            have HN3 := Aside0.mk (Kd.N_below HNj.out hb3)
            have HB3 := Aside0.mk hb3
            clear hb3 lg
            go_wp2_with fail
            go_region
            obtain ⟨w4, hw4⟩ : ∃ w4, w4 = ((((((((((w3.setCell ⟨g, (jp + 1) * 5, none⟩ (.bool y.f0)).setCell ⟨g, (jp + 1) * 5 + 1, none⟩ (.int .u64 y.f1)).setCell ⟨g, (jp + 1) * 5 + 2, none⟩ (.int .u64 y.f2.f0)).setCell ⟨g, (jp + 1) * 5 + 3, none⟩ (.int .u64 y.f2.f1)).setCell ⟨g, (jp + 1) * 5 + 4, none⟩ (.slice A2 y.f2.f2.length c2)).setCell ⟨g, jp * 5, none⟩ (.bool x.f0)).setCell ⟨g, jp * 5 + 1, none⟩ (.int .u64 x.f1)).setCell ⟨g, jp * 5 + 2, none⟩ (.int .u64 x.f2.f0)).setCell ⟨g, jp * 5 + 3, none⟩ (.int .u64 x.f2.f1)).setCell ⟨g, jp * 5 + 4, none⟩ (.slice A1 x.f2.f2.length c1)) := ⟨_, rfl⟩
            rw [← hw4]
            obtain ⟨hN4, hF4⟩ := swap_N HN3.out jp (by omega) (Kd.FK_step HF1.out (fun k hk hlt => HB3.out.block k hlt)) (Kd.FK_step HF2.out (fun k hk hlt => HB3.out.block k hlt))
            rw [← hw4, ← HSW.out] at hN4
            rw [← hw4] at hF4
            have HN4 := Aside0.mk (Kd.N_drew hN4)
            have HF4 := Aside0.mk (((HFj.out.below HB3.out).trans hF4).drew)
            clear hN4 hF4 hw4 q0 q1 q2 q3 q4 p0 p1 p2 p3 p4 z0 z1 z2 z3 z4 y0 y1 y2 y3 y4 HF1 HF2
            go_wp2_with fail
            go_roundg jp
            case measure => omega
            case rel => exact ⟨jp, zs2, by go_num, by omega, by omega, by omega, HN4, HF4, HIj⟩
          · rw [if_neg (fun h => hlv h.2)] at HIj
            have HCA := Aside0.mk hcall
            have hlv2 : decide (cf x y < 0) = false := decide_eq_false hlv
            clear hcall hlv
            generalize cf x y = v at *
            obtain ⟨wo, rfl⟩ : ∃ wo, wo = wr := ⟨_, rfl⟩
            go_wp2_with fail
            have Q0 := fun p => Gr.cell q0 p
            have Q1 := fun p => Gr.cell q1 p
            have Q2 := fun p => Gr.cell q2 p
            have Q3 := fun p => Gr.cell q3 p
            have Q4 := fun p => Gr.cell q4 p
            have P0 := fun p => Gr.cell p0 p
            have P1 := fun p => Gr.cell p1 p
            have P2 := fun p => Gr.cell p2 p
            have P3 := fun p => Gr.cell p3 p
            have P4 := fun p => Gr.cell p4 p
            refine wp_region_gr (by kernel_rfl) (by kernel_rfl) ?_
            repeat (quiet_step ((go_at_fn K; exact Calls.gr_of (HCA.out _))))
            refine wpQuiet_nil ?_
            intro w3 hw'
            have hb3 : Below wo.heap.size wo w3 := by obtain ⟨p, rfl⟩ := hw'; exact p.h
            have HN3 := Aside0.mk (Kd.N_below HNj.out hb3)
            have HF3 := Aside0.mk (HFj.out.below hb3)
            have HI3 := Aside0.mk (show insFrom cf a b (i + 1) zs = insOut cf a b xs by rw [← HIi.out, insFrom_step cf a b i ys hlt, HIj.out])
            clear hw' Q0 Q1 Q2 Q3 Q4 P0 P1 P2 P3 P4 q0 q1 q2 q3 q4 p0 p1 p2 p3 p4 z0 z1 z2 z3 z4 y0 y1 y2 y3 y4 HF1 HF2 hb3
            go_wp2_with fail
            go_roundg (b - (i + 1))
            case measure => omega
            case rel => exact ⟨i + 1, zs, by go_num, by omega, by omega, by omega, HN3, HF3, HI3⟩
        · obtain rfl : j = a := by omega
          have HI3 := Aside0.mk (show insFrom cf j b (i + 1) zs = insOut cf j b xs by rw [← HIi.out, insFrom_step cf j b i ys hlt, ← HIj.out, insIn_stop])
          have hja2 : decide ((j : Int) < (j : Int)) = false := decide_eq_false (by omega)
          obtain ⟨wo, rfl⟩ : ∃ wo, wo = wr := ⟨_, rfl⟩
          go_wp2_with fail
          go_quiet (fail)
          have HN3 := Aside0.mk (Kd.N_drewN HNj.out nq)
          have HF3 := Aside0.mk (HFj.out.drewN nq)
          go_wp2_with fail
          go_roundg (b - (i + 1))
          case measure => omega
          case rel => exact ⟨i + 1, zs, by go_num, by omega, by omega, by omega, HN3, HF3, HI3⟩
    · have hltz : ¬ (i : Int) < (b : Int) := by omega
      have HI3 := Aside0.mk (show ys = insOut cf a b xs by rw [← HIi.out, insFrom_end cf a b i ys (by omega)])
      go_wp2_with fail
      go_end0
      exact ⟨rfl, by rw [← HI3.out]; exact HNi.out, HFi.out⟩
end

end Go.Proofs.Ytoblkjdiahoplaa.G
