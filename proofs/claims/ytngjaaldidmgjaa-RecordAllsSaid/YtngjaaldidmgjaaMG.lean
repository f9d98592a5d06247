/- Contract of record.Decode. Contract of record.All. Contract of record.Parse. -/
import Derived.Test.YtngjaaldidmgjaaMF
namespace Go.Proofs.Ytngjaaldidmgjaa.G

section
open Go.Shelf Go.RowKit Go.Proofs.YtngjaaldidmgjaaW.PrintWords Go.Proofs.YtngjaaldidmgjaaW.PrintLast Go.Proofs.YtngjaaldidmgjaaW.PrintMore
set_option linter.unusedVariables false
set_option linter.unusedSimpArgs false

theorem equalIn_func {P : Program} (w : World) (d : Nat) (t : TypeId) {a b : Array TypeId} {v : Bool} (f : Fn) (x y : Array Value) (h : P.underlying t = some (.func a b v)) : (Op.equalIn (d + 1) t (.func f x y) .nilFunc).run P w = .ok false w := by
  simp [Op.equalIn, run_underlying h]
theorem equalIn_nilFunc {P : Program} (w : World) (d : Nat) (t : TypeId) {a b : Array TypeId} {v : Bool} (h : P.underlying t = some (.func a b v)) : (Op.equalIn (d + 1) t .nilFunc .nilFunc).run P w = .ok true w := by
  simp [Op.equalIn, run_underlying h]
theorem neq_func {P : Program} (w : World) (t : TypeId) {a b : Array TypeId} {v : Bool} (f : Fn) (x y : Array Value) (h : P.underlying t = some (.func a b v)) : (binOp .neq t (.func f x y) .nilFunc).run P w = .ok (.bool true) w := by
  simp only [binOp]
  simp [Op.equal, Op.maxDepth, equalIn_func w 9999 t f x y h]
theorem neq_nilFunc {P : Program} (w : World) (t : TypeId) {a b : Array TypeId} {v : Bool} (h : P.underlying t = some (.func a b v)) : (binOp .neq t .nilFunc .nilFunc).run P w = .ok (.bool false) w := by
  simp only [binOp]
  simp [Op.equal, Op.maxDepth, equalIn_nilFunc w 9999 t h]
/-- A box of seven cells written over. -/
theorem box7 {w w1 : World} {B t : Nat} {a b c d e f g v0 v1 v2 v3 v4 v5 v6 : Value} (h : w.heap[B]? = some (.cells #[a, b, c, d, e, f, g] t (0, 0))) (hw : w1 = (((((((w.setCell ⟨B, 0, none⟩ v0).setCell ⟨B, 1, none⟩ v1).setCell ⟨B, 2, none⟩ v2).setCell ⟨B, 3, none⟩ v3).setCell ⟨B, 4, none⟩ v4).setCell ⟨B, 5, none⟩ v5).setCell ⟨B, 6, none⟩ v6)) :
    w1.heap[B]? = some (.cells #[v0, v1, v2, v3, v4, v5, v6] t (0, 0)) ∧ Fr (· = B) w w1 := by
  subst hw
  constructor
  · have h1 := blk_set h 0 v0
    have h2 := blk_set h1 1 v1
    have h3 := blk_set h2 2 v2
    have h4 := blk_set h3 3 v3
    have h5 := blk_set h4 4 v4
    have h6 := blk_set h5 5 v5
    have h7 := blk_set h6 6 v6
    simpa using h7
  · exact (((((((Fr.refl (· = B) w).setCell (p := ⟨B, 0, none⟩) (.inl rfl) _).setCell (p := ⟨B, 1, none⟩) (.inl rfl) _).setCell (p := ⟨B, 2, none⟩) (.inl rfl) _).setCell (p := ⟨B, 3, none⟩) (.inl rfl) _).setCell (p := ⟨B, 4, none⟩) (.inl rfl) _).setCell (p := ⟨B, 5, none⟩) (.inl rfl) _).setCell (p := ⟨B, 6, none⟩) (.inl rfl) _
theorem below9 {W w w1 : World} (h : Below W.heap.size W w) (hf : Fr (· = W.heap.size) w w1) : Below W.heap.size W w1 :=
  below_step' h (Below.refl _ _) hf (fun k hk => by rw [hk]; exact Nat.le_refl _)

/-- What Decode has read: the record's fields, and where the reader is. -/
structure DR where
  (a0 a1 a2 a3 a4 : Int) (l5 : List Wr) (l6 : List (List Int)) (t : RS)
def sDec (bs : List Int) : DR :=
  let k := sVal bs 1 ⟨0, false, false⟩
  let t := sNum bs 1 ⟨0, false, false⟩
  if k = 1 then ⟨1, (sCommit bs t).1, 0, 0, 0, (sCommit bs t).2.1, [], (sCommit bs t).2.2⟩
  else if k = 2 then ⟨2, 0, 0, sVal bs 1 t, sVal bs 1 (sNum bs 1 t), [], [], sNum bs 1 (sNum bs 1 t)⟩
  else if k = 3 then ⟨3, 0, 0, sVal bs 1 t, 0, [], [], sNum bs 1 t⟩
  else if k = 4 then ⟨4, 0, 0, (sTrain bs t).1, 0, [], (sTrain bs t).2.1, (sTrain bs t).2.2⟩
  else if k = 5 then ⟨5, 0, sVal bs 8 t, 0, 0, [], [], sNum bs 8 t⟩
  else ⟨k, 0, 0, 0, 0, [], [], t⟩
def DR.rec_ (d : DR) : Rc := ⟨d.a0, d.a1, d.a2, d.a3, d.a4, d.l5, d.l6⟩
def decOk (bs : List Int) : Bool := (sDec bs).t.ok && (decide (bs.length ≤ (sDec bs).t.p) && recOk (sDec bs).rec_)

set_option maxHeartbeats 4000000 in
set_option maxRecDepth 100000 in
theorem decGo (A : Option Addr) (c : Nat) (bs : List Int) (W : World) (hr : Kd.C (Kd.int .u8) W A bs.length bs) (hc : bs.length ≤ c) (hl : bs.length < 140737488355328) (hby : ∀ x ∈ bs, 0 ≤ x ∧ x ≤ 255) :
    Calls Try.prog 46 #[.slice A bs.length c] W fun e w' =>
      (decOk bs = true → ∃ A5 c5 A6 c6, e = .returned (.tuple #[.agg #[.int .i64 (sDec bs).a0, .int .u64 (sDec bs).a1, .int .u64 (sDec bs).a2, .int .i64 (sDec bs).a3, .int .i64 (sDec bs).a4, .slice A5 (sDec bs).l5.length c5, .slice A6 (sDec bs).l6.length c6], .int .i64 0]) ∧
        (Kd.F kW w' (fun k => W.heap.size < k) A5 (sDec bs).l5.length (sDec bs).l5 ∧ (sDec bs).l5.length ≤ c5) ∧ (Kd.F kV w' (fun k => W.heap.size < k) A6 (sDec bs).l6.length (sDec bs).l6 ∧ (sDec bs).l6.length ≤ c6)) ∧
      (decOk bs = false → e = .returned (.tuple #[.agg #[.int .i64 0, .int .u64 0, .int .u64 0, .int .i64 0, .int .i64 0, .slice none 0 0, .slice none 0 0], .int .i64 172])) ∧ Below W.heap.size W w' := by
  obtain ⟨w1, hw1⟩ : ∃ w1, w1 = W.alloc (.cells #[.int .i64 0, .int .u64 0, .int .u64 0, .int .i64 0, .int .i64 0, .slice none 0 0, .slice none 0 0] 28) := ⟨_, rfl⟩
  have hB1 : Below W.heap.size W w1 := by rw [hw1]; exact (Below.refl _ _).alloc (Nat.le_refl _) _
  have hX := show w1.heap[W.heap.size]? = some (.cells #[.int .i64 0, .int .u64 0, .int .u64 0, .int .i64 0, .int .i64 0, .slice none 0 0, .slice none 0 0] 28 (0, 0)) by rw [hw1]; exact heap_alloc_new W _
  have HN0 := Aside0.mk (scTake_range bs 0 false 1 hby)
  have HR1 := Aside0.mk (Kd.C_below hr hB1)
  have HRD := Aside0.mk (ScRead A c bs w1 (Kd.C_below hr hB1) hc hl hby)
  have HW := Aside0.mk hw1
  have HB1 := Aside0.mk hB1
  have HX := Aside0.mk hX
  clear hw1 hB1 hX hr hby
  go_enter Try.func46, Try.ntmps46
  go_upto_region 1 with (fail)
  rw [← HW.out]
  go_wp2_with fail
  refine HRD.out.mono ?_
  rintro e w2 ⟨g, rfl, hi, hb⟩
  have hX2 := blk_below HX.out hb
  have hx1 : W.heap.size < w1.heap.size := blk_lt HX.out
  obtain ⟨w3, hw3⟩ : ∃ w3, w3 = w2.alloc (.cells #[.pointer (some ⟨g, 0, none⟩), .slice A bs.length c, .int .i64 0, .int .u64 0, .int .u64 0, .int .i64 0, .int .i64 0, .slice none 0 0, .slice none 0 0, .bool false] 113) := ⟨_, rfl⟩
  have hb23 : Below w2.heap.size w2 w3 := by rw [hw3]; exact (Below.refl _ _).alloc (Nat.le_refl _) _
  have hI3 : IsRr w1 w3 (fun k => w1.heap.size ≤ k ∧ k < w2.heap.size) w2.heap.size g (rcZ 0) A c bs 0 false false := by
    refine ⟨by rw [hw3]; exact heap_alloc_new w2 _, fun h => Nat.lt_irrefl _ h.2, fun h => by have := hi.lt; omega, below_size hb, ?_, below_step hb hb23, fun k hk => Nat.lt_of_lt_of_le hk.2 hb23.size⟩
    exact ((hi.bound).mono (fun k hk => ⟨hk.2.1, hk.2.2⟩)).fr (Fr.of_below (S := fun _ => False) hb23) (fun _ _ h => h)
  have HX3 := Aside0.mk (blk_below hX2 hb23)
  have HI3 := Aside0.mk hI3
  have HW3 := Aside0.mk hw3
  have HG := Aside0.mk (show W.heap.size ≠ g by have := hi.ge; omega)
  have HRX := Aside0.mk (show W.heap.size ≠ w2.heap.size by have := hb.size; omega)
  obtain ⟨q0, q1, q9⟩ := hI3.cells
  clear hw3 hI3 hX2 hb23 hb hi HRD
  go_upto_region 2 with (fail)
  rw [← HW3.out]
  have HN1 := Aside0.mk (ScNum _ _ g bs 0 false 1 w3 HI3.out.scan)
  rw [show sizeOr 1 = 1 from rfl, show num (scTake bs 0 false 1) = sVal bs 1 ⟨0, false, false⟩ from rfl, show scPl bs.length 0 false 1 = (sNum bs 1 ⟨0, false, false⟩).p from rfl, show scBad bs.length 0 false 1 = (sNum bs 1 ⟨0, false, false⟩).s from rfl] at HN1
  have hn0 := HN0.out
  rw [show (256 : Int) ^ (1 : Int).toNat = 256 by decide, show num (scTake bs 0 false 1) = sVal bs 1 ⟨0, false, false⟩ from rfl] at hn0
  obtain ⟨hna, hnb⟩ := hn0
  have HI3' := Aside0.mk (show IsRr w1 w3 (fun k => w1.heap.size ≤ k ∧ k < w2.heap.size) w2.heap.size g (rcZ 0) A c bs 0 false (sNum bs 1 ⟨0, false, false⟩).b from HI3.out)
  clear HI3 HN0
  obtain ⟨d, hd⟩ : ∃ d, d = sDec bs := ⟨_, rfl⟩
  have HD := Aside0.mk hd
  unfold sDec at hd
  simp only at hd
  have HDD := Aside0.mk hd
  clear hd
  generalize sVal bs 1 ⟨0, false, false⟩ = k at *
  generalize sNum bs 1 ⟨0, false, false⟩ = t1 at *
  go_wp2_with fail
  refine HN1.out.mono ?_
  rintro e w4 ⟨rfl, hi, hf⟩
  have hI4 := HI3'.out.fr hf hi
  have hX4 := hf.blk HX3.out HG.out
  have f2 : w4.frozen? ⟨w2.heap.size, 2, none⟩ = false := blk_frozen hI4.1 2
  have q2 : w4.cell? ⟨w2.heap.size, 2, none⟩ = some (.int .i64 0) := (blk_cell hI4.1 2).trans rfl
  obtain ⟨w5, hw5⟩ : ∃ w5, w5 = w4.setCell ⟨w2.heap.size, 2, none⟩ (.int .i64 k) := ⟨_, rfl⟩
  have HI5 := Aside0.mk (show IsRr w1 w5 (fun k => w1.heap.size ≤ k ∧ k < w2.heap.size) w2.heap.size g (rcZ k) A c bs t1.p t1.s t1.b by rw [hw5]; exact hI4.set 2 _ (rcZ k) _ rfl)
  have HX5 := Aside0.mk (show w5.heap[W.heap.size]? = some (.cells #[.int .i64 0, .int .u64 0, .int .u64 0, .int .i64 0, .int .i64 0, .slice none 0 0, .slice none 0 0] 28 (0, 0)) by rw [hw5]; exact blk_far hX4 (p := ⟨w2.heap.size, 2, none⟩) HRX.out _)
  have HW5 := Aside0.mk hw5
  clear q0 q1 q9 hi hf hI4 hX4 hw5 HI3' HX3 HN1 HW3 HW
  go_upto_region 3 with (fail)
  rw [← HW5.out]
  clear f2 q2 HW5
  obtain ⟨m0, hm0⟩ : ∃ m0, m0 = w5.alloc (.map #[] 0) := ⟨_, rfl⟩
  have hmm : (Instr.makeMap 114 none).run Try.prog w5 = .ok (.map (some w5.heap.size)) m0 := by rw [hm0]; exact run_makeMap _ _
  have b0 : m0.heap[w5.heap.size]? = some (.map #[] 0) := by rw [hm0]; exact heap_alloc_new _ _
  have B0 : Below w5.heap.size w5 m0 := by rw [hm0]; exact below_alloc (Below.refl _ _) _
  clear hm0
  obtain ⟨m1, s1, b1, B1⟩ := map_put (P := Try.prog) w5 m0 w5.heap.size _ _ 1 (.func (.func 76) #[.pointer (some ⟨w2.heap.size, 0, none⟩)] #[]) Try.underlying114 Try.underlying3 b0 (by first | rfl | simp [Instr.findNow, Instr.sameNow]) B0 (Nat.le_refl _)
  obtain ⟨m2, s2, b2, B2⟩ := map_put (P := Try.prog) w5 m1 w5.heap.size _ _ 2 (.func (.func 77) #[.pointer (some ⟨w2.heap.size, 0, none⟩)] #[]) Try.underlying114 Try.underlying3 b1 (by first | rfl | simp [Instr.findNow, Instr.sameNow]) B1 (Nat.le_refl _)
  obtain ⟨m3, s3, b3, B3⟩ := map_put (P := Try.prog) w5 m2 w5.heap.size _ _ 3 (.func (.func 78) #[.pointer (some ⟨w2.heap.size, 0, none⟩)] #[]) Try.underlying114 Try.underlying3 b2 (by first | rfl | simp [Instr.findNow, Instr.sameNow]) B2 (Nat.le_refl _)
  obtain ⟨m4, s4, b4, B4⟩ := map_put (P := Try.prog) w5 m3 w5.heap.size _ _ 4 (.func (.func 79) #[.pointer (some ⟨w2.heap.size, 0, none⟩)] #[]) Try.underlying114 Try.underlying3 b3 (by first | rfl | simp [Instr.findNow, Instr.sameNow]) B3 (Nat.le_refl _)
  obtain ⟨m5, s5, b5, B5⟩ := map_put (P := Try.prog) w5 m4 w5.heap.size _ _ 5 (.func (.func 80) #[.pointer (some ⟨w2.heap.size, 0, none⟩)] #[]) Try.underlying114 Try.underlying3 b4 (by first | rfl | simp [Instr.findNow, Instr.sameNow]) B4 (Nat.le_refl _)
  clear b0 b1 b2 b3 b4 B0 B1 B2 B3 B4
  have hI6 := HI5.out.below B5
  have HI6 := Aside0.mk hI6
  have HX6 := Aside0.mk (blk_below HX5.out B5)
  have HM := Aside0.mk b5
  have q2 : m5.cell? ⟨w2.heap.size, 2, none⟩ = some (.int .i64 k) := (blk_cell hI6.1 2).trans rfl
  have HSZ := Aside0.mk (show W.heap.size < m5.heap.size by have h1 := blk_lt HX6.out; exact h1)
  clear hI6 HI5 HX5 B5 b5
  go_upto_region 4 with (fail)
  rename_i K1 hK1 K0 hK0
  have tail : ∀ (a : Act) (wc : World) (u1 u5 u6 u7 u8 u9 u10 u11 u12 u13 u14 u15 u16 u17 u18 u19 u20 u21 u22 u23 u24 u25 u26 u27 u28 u29 u30 u31 u32 u33 u34 u35 u36 u37 u38 u39 u40 u41 u42 u43 u44 u45 u46 u47 u48 u49 u50 u51 u52 u53 u54 u55 u56 u57 u58 u59 u60 u61 u62 u63 u64 u65 u66 u67 u68 : Value) (A5 : Option Addr) (c5 : Nat) (A6 : Option Addr) (c6 : Nat), a = ⟨#[.slice A bs.length c, u1, .pointer (some ⟨W.heap.size, 0, none⟩), .int .i64 0, .pointer (some ⟨w2.heap.size, 0, none⟩), u5, u6, u7, u8, u9, u10, u11, u12, u13, u14, u15, u16, u17, u18, u19, u20, u21, u22, u23, u24, u25, u26, u27, u28, u29, u30, u31, u32, u33, u34, u35, u36, u37, u38, u39, u40, u41, u42, u43, u44, u45, u46, u47, u48, u49, u50, u51, u52, u53, u54, u55, u56, u57, u58, u59, u60, u61, u62, u63, u64, u65, u66, u67, u68], []⟩ →
      Aside0 (IsRr w1 wc (fun k => w1.heap.size ≤ k ∧ k < w2.heap.size) w2.heap.size g (rcC d.a0 d.a1 d.a2 d.a3 d.a4 A5 d.l5.length c5 A6 d.l6.length c6) A c bs d.t.p d.t.s d.t.b) →
      Aside0 (Kd.F kW wc (fun k => W.heap.size < k) A5 d.l5.length d.l5 ∧ d.l5.length ≤ c5) → Aside0 (Kd.F kV wc (fun k => W.heap.size < k) A6 d.l6.length d.l6 ∧ d.l6.length ≤ c6) →
      Aside0 (wc.heap[W.heap.size]? = some (.cells #[.int .i64 0, .int .u64 0, .int .u64 0, .int .i64 0, .int .i64 0, .slice none 0 0, .slice none 0 0] 28 (0, 0))) → K1 a wc := by
    intro a wc u1 u5 u6 u7 u8 u9 u10 u11 u12 u13 u14 u15 u16 u17 u18 u19 u20 u21 u22 u23 u24 u25 u26 u27 u28 u29 u30 u31 u32 u33 u34 u35 u36 u37 u38 u39 u40 u41 u42 u43 u44 u45 u46 u47 u48 u49 u50 u51 u52 u53 u54 u55 u56 u57 u58 u59 u60 u61 u62 u63 u64 u65 u66 u67 u68 A5 c5 A6 c6 ha HI HF5 HF6 HX
    subst ha
    clear hK0
    refine hK1 _ _ ?_
    clear hK1 s1 s2 s3 s4 s5 q2 HI6 HX6 HM
    clear hmm
    obtain ⟨q0, q1, q9⟩ := HI.out.cells
    have HOKC := Aside0.mk (rOk w1 wc _ w2.heap.size g _ A c bs d.t.p d.t.s d.t.b HI.out)
    rw [show (!d.t.b && !d.t.s) = d.t.ok from rfl] at HOKC
    have HB0 := Aside0.mk (below_step HB1.out HI.out.base)
    cases hok : d.t.ok with
    | false =>
      have HNO := Aside0.mk (show decOk bs = false by unfold decOk; rw [← HD.out, hok]; rfl)
      rw [hok] at HOKC
      clear hok
      go_wp2_with fail
      refine HOKC.out.mono ?_
      rintro e w6 ⟨rfl, hdr⟩
      have HXe := Aside0.mk (blk_below HX.out hdr.below)
      have HBe := Aside0.mk (below_step HB0.out hdr.below)
      clear hdr q0 q1 q9
      have e0 : w6.cell? ⟨W.heap.size, 0, none⟩ = some (.int .i64 0) := (blk_cell HXe.out 0).trans rfl
      have f0 : w6.frozen? ⟨W.heap.size, 0, none⟩ = false := blk_frozen HXe.out 0
      have e1 : w6.cell? ⟨W.heap.size, 1, none⟩ = some (.int .u64 0) := (blk_cell HXe.out 1).trans rfl
      have f1 : w6.frozen? ⟨W.heap.size, 1, none⟩ = false := blk_frozen HXe.out 1
      have e2 : w6.cell? ⟨W.heap.size, 2, none⟩ = some (.int .u64 0) := (blk_cell HXe.out 2).trans rfl
      have f2 : w6.frozen? ⟨W.heap.size, 2, none⟩ = false := blk_frozen HXe.out 2
      have e3 : w6.cell? ⟨W.heap.size, 3, none⟩ = some (.int .i64 0) := (blk_cell HXe.out 3).trans rfl
      have f3 : w6.frozen? ⟨W.heap.size, 3, none⟩ = false := blk_frozen HXe.out 3
      have e4 : w6.cell? ⟨W.heap.size, 4, none⟩ = some (.int .i64 0) := (blk_cell HXe.out 4).trans rfl
      have f4 : w6.frozen? ⟨W.heap.size, 4, none⟩ = false := blk_frozen HXe.out 4
      have e5 : w6.cell? ⟨W.heap.size, 5, none⟩ = some (.slice none 0 0) := (blk_cell HXe.out 5).trans rfl
      have f5 : w6.frozen? ⟨W.heap.size, 5, none⟩ = false := blk_frozen HXe.out 5
      have e6 : w6.cell? ⟨W.heap.size, 6, none⟩ = some (.slice none 0 0) := (blk_cell HXe.out 6).trans rfl
      have f6 : w6.frozen? ⟨W.heap.size, 6, none⟩ = false := blk_frozen HXe.out 6
      go_wp2_with fail
      obtain ⟨w9, hw9⟩ : ∃ w9, w9 = (((((((w6.setCell ⟨W.heap.size, 0, none⟩ (.int .i64 0)).setCell ⟨W.heap.size, 1, none⟩ (.int .u64 0)).setCell ⟨W.heap.size, 2, none⟩ (.int .u64 0)).setCell ⟨W.heap.size, 3, none⟩ (.int .i64 0)).setCell ⟨W.heap.size, 4, none⟩ (.int .i64 0)).setCell ⟨W.heap.size, 5, none⟩ (.slice none 0 0)).setCell ⟨W.heap.size, 6, none⟩ (.slice none 0 0)) := ⟨_, rfl⟩
      rw [← hw9]
      obtain ⟨hX9, hf9⟩ := box7 HXe.out hw9
      clear e0 e1 e2 e3 e4 e5 e6
      have e0 : w9.cell? ⟨W.heap.size, 0, none⟩ = some (.int .i64 0) := (blk_cell hX9 0).trans rfl
      have e1 : w9.cell? ⟨W.heap.size, 1, none⟩ = some (.int .u64 0) := (blk_cell hX9 1).trans rfl
      have e2 : w9.cell? ⟨W.heap.size, 2, none⟩ = some (.int .u64 0) := (blk_cell hX9 2).trans rfl
      have e3 : w9.cell? ⟨W.heap.size, 3, none⟩ = some (.int .i64 0) := (blk_cell hX9 3).trans rfl
      have e4 : w9.cell? ⟨W.heap.size, 4, none⟩ = some (.int .i64 0) := (blk_cell hX9 4).trans rfl
      have e5 : w9.cell? ⟨W.heap.size, 5, none⟩ = some (.slice none 0 0) := (blk_cell hX9 5).trans rfl
      have e6 : w9.cell? ⟨W.heap.size, 6, none⟩ = some (.slice none 0 0) := (blk_cell hX9 6).trans rfl
      refine bodyPost_ret (by simp [results, Try.results46, go_sem, e0, e1, e2, e3, e4, e5, e6]; try rfl) rfl ?_
      exact ⟨fun h => absurd h (by rw [HNO.out]; decide), fun _ => rfl, below9 HBe.out hf9⟩

    | true =>
      rw [hok] at HOKC
      have HOK1 := Aside0.mk hok
      clear hok
      have HS1 := Aside0.mk (show d.t.s = false by have h := HOK1.out; unfold RS.ok at h; cases hs : d.t.s; rfl; rw [hs] at h; simp at h)
      have HL := Aside0.mk (fun (W2 : World) (h : Drawn0 wc W2) => ScLeft _ _ g bs d.t.p d.t.s W2 (HI.out.below h.below).scan)
      have hple := HI.out.scan.place
      by_cases hlt : d.t.p < bs.length
      · have HNO := Aside0.mk (show decOk bs = false by unfold decOk; rw [← HD.out, HOK1.out, decide_eq_false (by omega)]; rfl)
        have hd0 : decide ((0 : Int) < (bs.length : Int) - (d.t.p : Int)) = true := decide_eq_true (by omega)
        have hltz : (d.t.p : Int) < (bs.length : Int) := by omega
        clear hple
        go_wp2_with (first
          | (go_at_call 81; refine HOKC.out.mono ?_; rintro e w5 ⟨rfl, hdr⟩; have HDR := Aside0.mk hdr; have q0' : w5.cell? ⟨w2.heap.size, 0, none⟩ = some (.pointer (some ⟨g, 0, none⟩)) := (hdr.below.cell (World.block_lt_of_cell? wc _ q0)).trans q0; clear hdr)
          | (go_at_call 59; refine (HL.out _ HDR.out).mono ?_; rintro e w6 ⟨rfl, hdr⟩; have hbd := below_step HDR.out.below hdr.below; have HXe := Aside0.mk (blk_below HX.out hbd); have HBe := Aside0.mk (below_step HB0.out hbd); clear hdr hbd
             have e0 : w6.cell? ⟨W.heap.size, 0, none⟩ = some (.int .i64 0) := (blk_cell HXe.out 0).trans rfl
             have f0 : w6.frozen? ⟨W.heap.size, 0, none⟩ = false := blk_frozen HXe.out 0
             have e1 : w6.cell? ⟨W.heap.size, 1, none⟩ = some (.int .u64 0) := (blk_cell HXe.out 1).trans rfl
             have f1 : w6.frozen? ⟨W.heap.size, 1, none⟩ = false := blk_frozen HXe.out 1
             have e2 : w6.cell? ⟨W.heap.size, 2, none⟩ = some (.int .u64 0) := (blk_cell HXe.out 2).trans rfl
             have f2 : w6.frozen? ⟨W.heap.size, 2, none⟩ = false := blk_frozen HXe.out 2
             have e3 : w6.cell? ⟨W.heap.size, 3, none⟩ = some (.int .i64 0) := (blk_cell HXe.out 3).trans rfl
             have f3 : w6.frozen? ⟨W.heap.size, 3, none⟩ = false := blk_frozen HXe.out 3
             have e4 : w6.cell? ⟨W.heap.size, 4, none⟩ = some (.int .i64 0) := (blk_cell HXe.out 4).trans rfl
             have f4 : w6.frozen? ⟨W.heap.size, 4, none⟩ = false := blk_frozen HXe.out 4
             have e5 : w6.cell? ⟨W.heap.size, 5, none⟩ = some (.slice none 0 0) := (blk_cell HXe.out 5).trans rfl
             have f5 : w6.frozen? ⟨W.heap.size, 5, none⟩ = false := blk_frozen HXe.out 5
             have e6 : w6.cell? ⟨W.heap.size, 6, none⟩ = some (.slice none 0 0) := (blk_cell HXe.out 6).trans rfl
             have f6 : w6.frozen? ⟨W.heap.size, 6, none⟩ = false := blk_frozen HXe.out 6))
        obtain ⟨w9, hw9⟩ : ∃ w9, w9 = (((((((w6.setCell ⟨W.heap.size, 0, none⟩ (.int .i64 0)).setCell ⟨W.heap.size, 1, none⟩ (.int .u64 0)).setCell ⟨W.heap.size, 2, none⟩ (.int .u64 0)).setCell ⟨W.heap.size, 3, none⟩ (.int .i64 0)).setCell ⟨W.heap.size, 4, none⟩ (.int .i64 0)).setCell ⟨W.heap.size, 5, none⟩ (.slice none 0 0)).setCell ⟨W.heap.size, 6, none⟩ (.slice none 0 0)) := ⟨_, rfl⟩
        rw [← hw9]
        obtain ⟨hX9, hf9⟩ := box7 HXe.out hw9
        clear e0 e1 e2 e3 e4 e5 e6
        have e0 : w9.cell? ⟨W.heap.size, 0, none⟩ = some (.int .i64 0) := (blk_cell hX9 0).trans rfl
        have e1 : w9.cell? ⟨W.heap.size, 1, none⟩ = some (.int .u64 0) := (blk_cell hX9 1).trans rfl
        have e2 : w9.cell? ⟨W.heap.size, 2, none⟩ = some (.int .u64 0) := (blk_cell hX9 2).trans rfl
        have e3 : w9.cell? ⟨W.heap.size, 3, none⟩ = some (.int .i64 0) := (blk_cell hX9 3).trans rfl
        have e4 : w9.cell? ⟨W.heap.size, 4, none⟩ = some (.int .i64 0) := (blk_cell hX9 4).trans rfl
        have e5 : w9.cell? ⟨W.heap.size, 5, none⟩ = some (.slice none 0 0) := (blk_cell hX9 5).trans rfl
        have e6 : w9.cell? ⟨W.heap.size, 6, none⟩ = some (.slice none 0 0) := (blk_cell hX9 6).trans rfl
        refine bodyPost_ret (by simp [results, Try.results46, go_sem, e0, e1, e2, e3, e4, e5, e6]; try rfl) rfl ?_
        exact ⟨fun h => absurd h (by rw [HNO.out]; decide), fun _ => rfl, below9 HBe.out hf9⟩
      · have HEQ := Aside0.mk (show bs.length ≤ d.t.p by omega)
        have hltz : ¬ (d.t.p : Int) < (bs.length : Int) := by omega
        have HC := Aside0.mk (fun (W2 : World) (h : Below wc.heap.size wc W2) => recCheck d.a0 d.a1 d.a2 d.a3 d.a4 d.l5 d.l6 A5 c5 A6 c6 W2 (Kd.F_now (Kd.F_below HF5.out.1 h)) HF5.out.2 (Kd.F_now (Kd.F_below HF6.out.1 h)))
        clear hple
        cases hrk : recOk ⟨d.a0, d.a1, d.a2, d.a3, d.a4, d.l5, d.l6⟩ with
        | false =>
          rw [hrk] at HC
          have HNO := Aside0.mk (show decOk bs = false by unfold decOk; rw [← HD.out, HOK1.out, decide_eq_true HEQ.out, show recOk d.rec_ = false from hrk]; rfl)
          clear hrk
          go_wp2_with (first
            | (go_at_call 81; refine HOKC.out.mono ?_; rintro e w5 ⟨rfl, hdr⟩; have HDR := Aside0.mk hdr; have q0' : w5.cell? ⟨w2.heap.size, 0, none⟩ = some (.pointer (some ⟨g, 0, none⟩)) := (hdr.below.cell (World.block_lt_of_cell? wc _ q0)).trans q0; clear hdr)
            | (go_at_call 59; refine (HL.out _ HDR.out).mono ?_; rintro e w6 ⟨rfl, hdr⟩; have hbd := below_step HDR.out.below hdr.below; have hI6 := HI.out.below hbd; have HBD := Aside0.mk hbd
               have r0 : w6.cell? ⟨w2.heap.size, 2, none⟩ = some (.int .i64 d.a0) := (blk_cell hI6.1 2).trans rfl
               have r1 : w6.cell? ⟨w2.heap.size, 3, none⟩ = some (.int .u64 d.a1) := (blk_cell hI6.1 3).trans rfl
               have r2 : w6.cell? ⟨w2.heap.size, 4, none⟩ = some (.int .u64 d.a2) := (blk_cell hI6.1 4).trans rfl
               have r3 : w6.cell? ⟨w2.heap.size, 5, none⟩ = some (.int .i64 d.a3) := (blk_cell hI6.1 5).trans rfl
               have r4 : w6.cell? ⟨w2.heap.size, 6, none⟩ = some (.int .i64 d.a4) := (blk_cell hI6.1 6).trans rfl
               have r5 : w6.cell? ⟨w2.heap.size, 7, none⟩ = some (.slice A5 d.l5.length c5) := (blk_cell hI6.1 7).trans rfl
               have r6 : w6.cell? ⟨w2.heap.size, 8, none⟩ = some (.slice A6 d.l6.length c6) := (blk_cell hI6.1 8).trans rfl
               clear hdr hbd hI6)
            | (go_at_call 50; refine (HC.out _ HBD.out).mono ?_; rintro e w7 ⟨rfl, hdr⟩; have hbd := below_step HBD.out hdr; have HXe := Aside0.mk (blk_below HX.out hbd); have HBe := Aside0.mk (below_step HB0.out hbd); clear hdr hbd
               have e0 : w7.cell? ⟨W.heap.size, 0, none⟩ = some (.int .i64 0) := (blk_cell HXe.out 0).trans rfl
               have f0 : w7.frozen? ⟨W.heap.size, 0, none⟩ = false := blk_frozen HXe.out 0
               have e1 : w7.cell? ⟨W.heap.size, 1, none⟩ = some (.int .u64 0) := (blk_cell HXe.out 1).trans rfl
               have f1 : w7.frozen? ⟨W.heap.size, 1, none⟩ = false := blk_frozen HXe.out 1
               have e2 : w7.cell? ⟨W.heap.size, 2, none⟩ = some (.int .u64 0) := (blk_cell HXe.out 2).trans rfl
               have f2 : w7.frozen? ⟨W.heap.size, 2, none⟩ = false := blk_frozen HXe.out 2
               have e3 : w7.cell? ⟨W.heap.size, 3, none⟩ = some (.int .i64 0) := (blk_cell HXe.out 3).trans rfl
               have f3 : w7.frozen? ⟨W.heap.size, 3, none⟩ = false := blk_frozen HXe.out 3
               have e4 : w7.cell? ⟨W.heap.size, 4, none⟩ = some (.int .i64 0) := (blk_cell HXe.out 4).trans rfl
               have f4 : w7.frozen? ⟨W.heap.size, 4, none⟩ = false := blk_frozen HXe.out 4
               have e5 : w7.cell? ⟨W.heap.size, 5, none⟩ = some (.slice none 0 0) := (blk_cell HXe.out 5).trans rfl
               have f5 : w7.frozen? ⟨W.heap.size, 5, none⟩ = false := blk_frozen HXe.out 5
               have e6 : w7.cell? ⟨W.heap.size, 6, none⟩ = some (.slice none 0 0) := (blk_cell HXe.out 6).trans rfl
               have f6 : w7.frozen? ⟨W.heap.size, 6, none⟩ = false := blk_frozen HXe.out 6))
          obtain ⟨w9, hw9⟩ : ∃ w9, w9 = (((((((w7.setCell ⟨W.heap.size, 0, none⟩ (.int .i64 0)).setCell ⟨W.heap.size, 1, none⟩ (.int .u64 0)).setCell ⟨W.heap.size, 2, none⟩ (.int .u64 0)).setCell ⟨W.heap.size, 3, none⟩ (.int .i64 0)).setCell ⟨W.heap.size, 4, none⟩ (.int .i64 0)).setCell ⟨W.heap.size, 5, none⟩ (.slice none 0 0)).setCell ⟨W.heap.size, 6, none⟩ (.slice none 0 0)) := ⟨_, rfl⟩
          rw [← hw9]
          obtain ⟨hX9, hf9⟩ := box7 HXe.out hw9
          clear e0 e1 e2 e3 e4 e5 e6
          have e0 : w9.cell? ⟨W.heap.size, 0, none⟩ = some (.int .i64 0) := (blk_cell hX9 0).trans rfl
          have e1 : w9.cell? ⟨W.heap.size, 1, none⟩ = some (.int .u64 0) := (blk_cell hX9 1).trans rfl
          have e2 : w9.cell? ⟨W.heap.size, 2, none⟩ = some (.int .u64 0) := (blk_cell hX9 2).trans rfl
          have e3 : w9.cell? ⟨W.heap.size, 3, none⟩ = some (.int .i64 0) := (blk_cell hX9 3).trans rfl
          have e4 : w9.cell? ⟨W.heap.size, 4, none⟩ = some (.int .i64 0) := (blk_cell hX9 4).trans rfl
          have e5 : w9.cell? ⟨W.heap.size, 5, none⟩ = some (.slice none 0 0) := (blk_cell hX9 5).trans rfl
          have e6 : w9.cell? ⟨W.heap.size, 6, none⟩ = some (.slice none 0 0) := (blk_cell hX9 6).trans rfl
          refine bodyPost_ret (by simp [results, Try.results46, go_sem, e0, e1, e2, e3, e4, e5, e6]; try rfl) rfl ?_
          exact ⟨fun h => absurd h (by rw [HNO.out]; decide), fun _ => rfl, below9 HBe.out hf9⟩
        | true =>
          rw [hrk] at HC
          have HYES := Aside0.mk (show decOk bs = true by unfold decOk; rw [← HD.out, HOK1.out, decide_eq_true HEQ.out, show recOk d.rec_ = true from hrk]; rfl)
          clear hrk
          go_wp2_with (first
            | (go_at_call 81; refine HOKC.out.mono ?_; rintro e w5 ⟨rfl, hdr⟩; have HDR := Aside0.mk hdr; have q0' : w5.cell? ⟨w2.heap.size, 0, none⟩ = some (.pointer (some ⟨g, 0, none⟩)) := (hdr.below.cell (World.block_lt_of_cell? wc _ q0)).trans q0; clear hdr)
            | (go_at_call 59; refine (HL.out _ HDR.out).mono ?_; rintro e w6 ⟨rfl, hdr⟩; have hbd := below_step HDR.out.below hdr.below; have hI6 := HI.out.below hbd; have HBD := Aside0.mk hbd
               have r0 : w6.cell? ⟨w2.heap.size, 2, none⟩ = some (.int .i64 d.a0) := (blk_cell hI6.1 2).trans rfl
               have r1 : w6.cell? ⟨w2.heap.size, 3, none⟩ = some (.int .u64 d.a1) := (blk_cell hI6.1 3).trans rfl
               have r2 : w6.cell? ⟨w2.heap.size, 4, none⟩ = some (.int .u64 d.a2) := (blk_cell hI6.1 4).trans rfl
               have r3 : w6.cell? ⟨w2.heap.size, 5, none⟩ = some (.int .i64 d.a3) := (blk_cell hI6.1 5).trans rfl
               have r4 : w6.cell? ⟨w2.heap.size, 6, none⟩ = some (.int .i64 d.a4) := (blk_cell hI6.1 6).trans rfl
               have r5 : w6.cell? ⟨w2.heap.size, 7, none⟩ = some (.slice A5 d.l5.length c5) := (blk_cell hI6.1 7).trans rfl
               have r6 : w6.cell? ⟨w2.heap.size, 8, none⟩ = some (.slice A6 d.l6.length c6) := (blk_cell hI6.1 8).trans rfl
               clear hdr hbd hI6)
            | (go_at_call 50; refine (HC.out _ HBD.out).mono ?_; rintro e w7 ⟨rfl, hdr⟩; have hbd := below_step HBD.out hdr; have HXe := Aside0.mk (blk_below HX.out hbd); have HBe := Aside0.mk (below_step HB0.out hbd); have hI7 := HI.out.below hbd; clear r0 r1 r2 r3 r4 r5 r6; have HB7 := Aside0.mk hbd
               have r0 : w7.cell? ⟨w2.heap.size, 2, none⟩ = some (.int .i64 d.a0) := (blk_cell hI7.1 2).trans rfl
               have r1 : w7.cell? ⟨w2.heap.size, 3, none⟩ = some (.int .u64 d.a1) := (blk_cell hI7.1 3).trans rfl
               have r2 : w7.cell? ⟨w2.heap.size, 4, none⟩ = some (.int .u64 d.a2) := (blk_cell hI7.1 4).trans rfl
               have r3 : w7.cell? ⟨w2.heap.size, 5, none⟩ = some (.int .i64 d.a3) := (blk_cell hI7.1 5).trans rfl
               have r4 : w7.cell? ⟨w2.heap.size, 6, none⟩ = some (.int .i64 d.a4) := (blk_cell hI7.1 6).trans rfl
               have r5 : w7.cell? ⟨w2.heap.size, 7, none⟩ = some (.slice A5 d.l5.length c5) := (blk_cell hI7.1 7).trans rfl
               have r6 : w7.cell? ⟨w2.heap.size, 8, none⟩ = some (.slice A6 d.l6.length c6) := (blk_cell hI7.1 8).trans rfl
               clear hdr hbd hI7
               have e0 : w7.cell? ⟨W.heap.size, 0, none⟩ = some (.int .i64 0) := (blk_cell HXe.out 0).trans rfl
               have f0 : w7.frozen? ⟨W.heap.size, 0, none⟩ = false := blk_frozen HXe.out 0
               have e1 : w7.cell? ⟨W.heap.size, 1, none⟩ = some (.int .u64 0) := (blk_cell HXe.out 1).trans rfl
               have f1 : w7.frozen? ⟨W.heap.size, 1, none⟩ = false := blk_frozen HXe.out 1
               have e2 : w7.cell? ⟨W.heap.size, 2, none⟩ = some (.int .u64 0) := (blk_cell HXe.out 2).trans rfl
               have f2 : w7.frozen? ⟨W.heap.size, 2, none⟩ = false := blk_frozen HXe.out 2
               have e3 : w7.cell? ⟨W.heap.size, 3, none⟩ = some (.int .i64 0) := (blk_cell HXe.out 3).trans rfl
               have f3 : w7.frozen? ⟨W.heap.size, 3, none⟩ = false := blk_frozen HXe.out 3
               have e4 : w7.cell? ⟨W.heap.size, 4, none⟩ = some (.int .i64 0) := (blk_cell HXe.out 4).trans rfl
               have f4 : w7.frozen? ⟨W.heap.size, 4, none⟩ = false := blk_frozen HXe.out 4
               have e5 : w7.cell? ⟨W.heap.size, 5, none⟩ = some (.slice none 0 0) := (blk_cell HXe.out 5).trans rfl
               have f5 : w7.frozen? ⟨W.heap.size, 5, none⟩ = false := blk_frozen HXe.out 5
               have e6 : w7.cell? ⟨W.heap.size, 6, none⟩ = some (.slice none 0 0) := (blk_cell HXe.out 6).trans rfl
               have f6 : w7.frozen? ⟨W.heap.size, 6, none⟩ = false := blk_frozen HXe.out 6))
          obtain ⟨w9, hw9⟩ : ∃ w9, w9 = (((((((w7.setCell ⟨W.heap.size, 0, none⟩ (.int .i64 d.a0)).setCell ⟨W.heap.size, 1, none⟩ (.int .u64 d.a1)).setCell ⟨W.heap.size, 2, none⟩ (.int .u64 d.a2)).setCell ⟨W.heap.size, 3, none⟩ (.int .i64 d.a3)).setCell ⟨W.heap.size, 4, none⟩ (.int .i64 d.a4)).setCell ⟨W.heap.size, 5, none⟩ (.slice A5 d.l5.length c5)).setCell ⟨W.heap.size, 6, none⟩ (.slice A6 d.l6.length c6)) := ⟨_, rfl⟩
          rw [← hw9]
          obtain ⟨hX9, hf9⟩ := box7 HXe.out hw9
          clear e0 e1 e2 e3 e4 e5 e6
          have e0 : w9.cell? ⟨W.heap.size, 0, none⟩ = some (.int .i64 d.a0) := (blk_cell hX9 0).trans rfl
          have e1 : w9.cell? ⟨W.heap.size, 1, none⟩ = some (.int .u64 d.a1) := (blk_cell hX9 1).trans rfl
          have e2 : w9.cell? ⟨W.heap.size, 2, none⟩ = some (.int .u64 d.a2) := (blk_cell hX9 2).trans rfl
          have e3 : w9.cell? ⟨W.heap.size, 3, none⟩ = some (.int .i64 d.a3) := (blk_cell hX9 3).trans rfl
          have e4 : w9.cell? ⟨W.heap.size, 4, none⟩ = some (.int .i64 d.a4) := (blk_cell hX9 4).trans rfl
          have e5 : w9.cell? ⟨W.heap.size, 5, none⟩ = some (.slice A5 d.l5.length c5) := (blk_cell hX9 5).trans rfl
          have e6 : w9.cell? ⟨W.heap.size, 6, none⟩ = some (.slice A6 d.l6.length c6) := (blk_cell hX9 6).trans rfl
          refine bodyPost_ret (by simp [results, Try.results46, go_sem, e0, e1, e2, e3, e4, e5, e6]; try rfl) rfl ?_
          have hdd := HD.out
          rw [← hdd]
          exact ⟨fun _ => ⟨A5, c5, A6, c6, rfl, ⟨Kd.F_step (Kd.F_below HF5.out.1 HB7.out) (fun k hk hlt => hf9.block hlt (fun e => by omega)), HF5.out.2⟩, ⟨Kd.F_step (Kd.F_below HF6.out.1 HB7.out) (fun k hk hlt => hf9.block hlt (fun e => by omega)), HF6.out.2⟩⟩, fun h => absurd h (by rw [HYES.out]; decide), below9 HBe.out hf9⟩
  clear hK1
  by_cases k1 : k = 1
  · subst k1
    have hdd := HDD.out
    rw [if_pos rfl] at hdd
    subst hdd
    have hlk := map_look (P := Try.prog) m5 w5.heap.size _ _ 1 0 (.func (.func 76) #[.pointer (some ⟨w2.heap.size, 0, none⟩)] #[]) Try.underlying114 Try.underlying3 HM.out (by first | rfl | simp [Instr.findNow, Instr.sameNow])
    have eg : ∀ args w, (callFunc 76 args).run Try.prog w = .ok (.enter 76 args) w := enters_of Try.func76 (by kernel_rfl) rfl
    have hnf := neq_func (P := Try.prog) m5 1 (.func 76) #[.pointer (some ⟨w2.heap.size, 0, none⟩)] #[] Try.underlying1
    have HCM := Aside0.mk (rCommit 1 w1 m5 _ w2.heap.size g A c bs t1 HI6.out HR1.out hc hl)
    go_wp2_with (go_at_fn 76; refine HCM.out.mono ?_; rintro e w11 ⟨Ax, cx, rfl, hN, hi, hf⟩; have HNx := Aside0.mk hN; have HIx := Aside0.mk hi; have HFx := Aside0.mk hf; clear hN hi hf)
    exact tail _ _ _ _ _ _ _ _ _ _ _ _ _ _ _ _ _ _ _ _ _ _ _ _ _ _ _ _ _ _ _ _ _ _ _ _ _ _ _ _ _ _ _ _ _ _ _ _ _ _ _ _ _ _ _ _ _ _ _ _ _ _ _ _ _ _ _ Ax cx none 0 rfl HIx ⟨⟨Kd.F_mono (Kd.N_F HNx.out) (fun k hk => by have := HSZ.out; omega), (Kd.N_reads' HNx.out).2.1⟩⟩ ⟨⟨Kd.F_nil _ _ _, Nat.zero_le _⟩⟩ ⟨HFx.out.blk HX6.out (fun e => by rcases e with e | e; exact HG.out e; exact HRX.out e)⟩
  by_cases k2 : k = 2
  · subst k2
    have hdd := HDD.out
    rw [if_neg (by decide)] at hdd; rw [if_pos rfl] at hdd
    subst hdd
    have hlk := map_look (P := Try.prog) m5 w5.heap.size _ _ 2 1 (.func (.func 77) #[.pointer (some ⟨w2.heap.size, 0, none⟩)] #[]) Try.underlying114 Try.underlying3 HM.out (by first | rfl | simp [Instr.findNow, Instr.sameNow])
    have eg : ∀ args w, (callFunc 77 args).run Try.prog w = .ok (.enter 77 args) w := enters_of Try.func77 (by kernel_rfl) rfl
    have hnf := neq_func (P := Try.prog) m5 1 (.func 77) #[.pointer (some ⟨w2.heap.size, 0, none⟩)] #[] Try.underlying1
    have HCM := Aside0.mk (rCreate 2 w1 m5 _ w2.heap.size g A c bs t1 HI6.out)
    go_wp2_with (go_at_fn 77; refine HCM.out.mono ?_; rintro e w11 ⟨rfl, hi, hf⟩; have HIx := Aside0.mk hi; have HFx := Aside0.mk hf; clear hi hf)
    exact tail _ _ _ _ _ _ _ _ _ _ _ _ _ _ _ _ _ _ _ _ _ _ _ _ _ _ _ _ _ _ _ _ _ _ _ _ _ _ _ _ _ _ _ _ _ _ _ _ _ _ _ _ _ _ _ _ _ _ _ _ _ _ _ _ _ _ _ none 0 none 0 rfl ⟨HIx.out⟩ ⟨⟨Kd.F_nil _ _ _, Nat.zero_le _⟩⟩ ⟨⟨Kd.F_nil _ _ _, Nat.zero_le _⟩⟩ ⟨HFx.out.blk HX6.out (fun e => by rcases e with e | e; exact HG.out e; exact HRX.out e)⟩
  by_cases k3 : k = 3
  · subst k3
    have hdd := HDD.out
    rw [if_neg (by decide)] at hdd; rw [if_neg (by decide)] at hdd; rw [if_pos rfl] at hdd
    subst hdd
    have hlk := map_look (P := Try.prog) m5 w5.heap.size _ _ 3 2 (.func (.func 78) #[.pointer (some ⟨w2.heap.size, 0, none⟩)] #[]) Try.underlying114 Try.underlying3 HM.out (by first | rfl | simp [Instr.findNow, Instr.sameNow])
    have eg : ∀ args w, (callFunc 78 args).run Try.prog w = .ok (.enter 78 args) w := enters_of Try.func78 (by kernel_rfl) rfl
    have hnf := neq_func (P := Try.prog) m5 1 (.func 78) #[.pointer (some ⟨w2.heap.size, 0, none⟩)] #[] Try.underlying1
    have HCM := Aside0.mk (rDrop w1 m5 _ w2.heap.size g (rcZ 3) A c bs t1.p t1.s t1.b HI6.out 0 rfl)
    go_wp2_with (go_at_fn 78; refine HCM.out.mono ?_; rintro e w11 ⟨rfl, hi, hf⟩; have HIx := Aside0.mk hi; have HFx := Aside0.mk hf; clear hi hf)
    exact tail _ _ _ _ _ _ _ _ _ _ _ _ _ _ _ _ _ _ _ _ _ _ _ _ _ _ _ _ _ _ _ _ _ _ _ _ _ _ _ _ _ _ _ _ _ _ _ _ _ _ _ _ _ _ _ _ _ _ _ _ _ _ _ _ _ _ _ none 0 none 0 rfl ⟨HIx.out⟩ ⟨⟨Kd.F_nil _ _ _, Nat.zero_le _⟩⟩ ⟨⟨Kd.F_nil _ _ _, Nat.zero_le _⟩⟩ ⟨HFx.out.blk HX6.out (fun e => by rcases e with e | e; exact HG.out e; exact HRX.out e)⟩
  by_cases k4 : k = 4
  · subst k4
    have hdd := HDD.out
    rw [if_neg (by decide)] at hdd; rw [if_neg (by decide)] at hdd; rw [if_neg (by decide)] at hdd; rw [if_pos rfl] at hdd
    subst hdd
    have hlk := map_look (P := Try.prog) m5 w5.heap.size _ _ 4 3 (.func (.func 79) #[.pointer (some ⟨w2.heap.size, 0, none⟩)] #[]) Try.underlying114 Try.underlying3 HM.out (by first | rfl | simp [Instr.findNow, Instr.sameNow])
    have eg : ∀ args w, (callFunc 79 args).run Try.prog w = .ok (.enter 79 args) w := enters_of Try.func79 (by kernel_rfl) rfl
    have hnf := neq_func (P := Try.prog) m5 1 (.func 79) #[.pointer (some ⟨w2.heap.size, 0, none⟩)] #[] Try.underlying1
    have HCM := Aside0.mk (rTrain 4 w1 m5 _ w2.heap.size g A c bs t1 HI6.out HR1.out hc hl)
    go_wp2_with (go_at_fn 79; refine HCM.out.mono ?_; rintro e w11 ⟨Ax, cx, rfl, hN, hi, hf⟩; have HNx := Aside0.mk hN; have HIx := Aside0.mk hi; have HFx := Aside0.mk hf; clear hN hi hf)
    exact tail _ _ _ _ _ _ _ _ _ _ _ _ _ _ _ _ _ _ _ _ _ _ _ _ _ _ _ _ _ _ _ _ _ _ _ _ _ _ _ _ _ _ _ _ _ _ _ _ _ _ _ _ _ _ _ _ _ _ _ _ _ _ _ _ _ _ _ none 0 Ax cx rfl HIx ⟨⟨Kd.F_nil _ _ _, Nat.zero_le _⟩⟩ ⟨⟨Kd.F_mono (Kd.N_F HNx.out) (fun k hk => by have := HSZ.out; omega), (Kd.N_reads' HNx.out).2.1⟩⟩ ⟨HFx.out.blk HX6.out (fun e => by rcases e with e | e; exact HG.out e; exact HRX.out e)⟩
  by_cases k5 : k = 5
  · subst k5
    have hdd := HDD.out
    rw [if_neg (by decide)] at hdd; rw [if_neg (by decide)] at hdd; rw [if_neg (by decide)] at hdd; rw [if_neg (by decide)] at hdd; rw [if_pos rfl] at hdd
    subst hdd
    have hlk := map_look (P := Try.prog) m5 w5.heap.size _ _ 5 4 (.func (.func 80) #[.pointer (some ⟨w2.heap.size, 0, none⟩)] #[]) Try.underlying114 Try.underlying3 HM.out (by first | rfl | simp [Instr.findNow, Instr.sameNow])
    have eg : ∀ args w, (callFunc 80 args).run Try.prog w = .ok (.enter 80 args) w := enters_of Try.func80 (by kernel_rfl) rfl
    have hnf := neq_func (P := Try.prog) m5 1 (.func 80) #[.pointer (some ⟨w2.heap.size, 0, none⟩)] #[] Try.underlying1
    have HCM := Aside0.mk (rVacuum w1 m5 _ w2.heap.size g (rcZ 5) A c bs t1.p t1.s t1.b HI6.out 0 rfl)
    go_wp2_with (go_at_fn 80; refine HCM.out.mono ?_; rintro e w11 ⟨rfl, hi, hf⟩; have HIx := Aside0.mk hi; have HFx := Aside0.mk hf; clear hi hf)
    exact tail _ _ _ _ _ _ _ _ _ _ _ _ _ _ _ _ _ _ _ _ _ _ _ _ _ _ _ _ _ _ _ _ _ _ _ _ _ _ _ _ _ _ _ _ _ _ _ _ _ _ _ _ _ _ _ _ _ _ _ _ _ _ _ _ _ _ _ none 0 none 0 rfl ⟨HIx.out⟩ ⟨⟨Kd.F_nil _ _ _, Nat.zero_le _⟩⟩ ⟨⟨Kd.F_nil _ _ _, Nat.zero_le _⟩⟩ ⟨HFx.out.blk HX6.out (fun e => by rcases e with e | e; exact HG.out e; exact HRX.out e)⟩
  have hdd := HDD.out
  rw [if_neg k1, if_neg k2, if_neg k3, if_neg k4, if_neg k5] at hdd
  subst hdd
  have hlk := map_none (P := Try.prog) m5 w5.heap.size _ _ k .nilFunc Try.underlying114 Try.underlying3 (by kernel_rfl) HM.out (by simp [Instr.findNow, Instr.sameNow, beq_eq_false_iff_ne.2 k1, beq_eq_false_iff_ne.2 k2, beq_eq_false_iff_ne.2 k3, beq_eq_false_iff_ne.2 k4, beq_eq_false_iff_ne.2 k5])
  have hnf := neq_nilFunc (P := Try.prog) m5 1 Try.underlying1
  go_wp2_with fail
  exact tail _ _ _ _ _ _ _ _ _ _ _ _ _ _ _ _ _ _ _ _ _ _ _ _ _ _ _ _ _ _ _ _ _ _ _ _ _ _ _ _ _ _ _ _ _ _ _ _ _ _ _ _ _ _ _ _ _ _ _ _ _ _ _ _ _ _ _ none 0 none 0 rfl ⟨HI6.out⟩ ⟨⟨Kd.F_nil _ _ _, Nat.zero_le _⟩⟩ ⟨⟨Kd.F_nil _ _ _, Nat.zero_le _⟩⟩ ⟨HX6.out⟩
end

section
open Go.Shelf Go.RowKit Go.Proofs.YtngjaaldidmgjaaW.PrintWords Go.Proofs.YtngjaaldidmgjaaW.PrintLast Go.Proofs.YtngjaaldidmgjaaW.PrintMore
set_option linter.unusedVariables false
set_option linter.unusedSimpArgs false

/-- A record's bytes; bytes of records: each behind its length. -/
def recBs (r : Rc) : List Int := recB r.f0 r.f1 r.f2 r.f3 r.f4 r.f5 r.f6
def lenB (r : Rc) : List Int := putBytes 2 ((recBs r).length : Int) ++ recBs r
def allB (l : List Rc) : List Int := (l.map lenB).flatten
theorem put2_len (x : Int) : (putBytes 2 x).length = 2 := by unfold putBytes; rw [if_pos (by decide)]; rfl
theorem recBs_le {r : Rc} (h : recOk r = true) : (recBs r).length ≤ 4000 := by
  obtain ⟨a0, a1, a2, a3, a4, l5, l6⟩ := r
  have h2 := okKinds h
  unfold recBs recB bodyB
  simp only
  rcases h2 with ⟨rfl, h5, hl⟩ | ⟨rfl, _⟩ | ⟨rfl, _⟩ | ⟨rfl, h6, hl⟩ | ⟨rfl, _⟩
  · have := wrsB_le l5 h5
    simp [put8_len]
    omega
  · simp
  · simp
  · have := vecsB_le l6 h6
    simp
    omega
  · simp [put8_len]
theorem allB_le (l : List Rc) (h : ∀ r ∈ l, recOk r = true) : (allB l).length ≤ 4002 * l.length := by
  induction l with
  | nil => exact Nat.le_refl _
  | cons v l ih =>
    have h1 := recBs_le (h v (List.mem_cons_self ..))
    have h2 := ih (fun u hu => h u (List.mem_cons_of_mem _ hu))
    unfold allB at h2 ⊢
    rw [List.map_cons, List.flatten_cons, List.length_append, List.length_cons]
    unfold lenB
    rw [List.length_append, put2_len]
    unfold lenB at h2
    omega
theorem allB_step (l : List Rc) (k : Nat) (h : k < l.length) : allB (l.take (k + 1)) = allB (l.take k) ++ putBytes 2 ((recBs l[k]).length : Int) ++ recBs l[k] := by
  rw [List.take_succ_eq_append_getElem h]
  unfold allB lenB
  rw [List.map_append, List.flatten_append]
  simp

def AllPost (l : List Rc) (w : World) (e : Ending) (w' : World) : Prop :=
  (l.all recOk = true → ∃ v, e = .returned (.tuple #[v, .int .i64 0]) ∧ Kd.R (Kd.int .u8) 5 w' w.heap.size (fun _ => True) v (allB l)) ∧
  (l.all recOk = false → e = .returned (.tuple #[.slice none 0 0, .int .i64 340])) ∧ Below w.heap.size w w'
set_option maxHeartbeats 4000000 in
set_option maxRecDepth 100000 in
theorem recAll (A : Option Addr) (c : Nat) (l : List Rc) (w : World) (hr : Kd.C kRc w A l.length l) (hl : l.length ≤ 1000) :
    Calls Try.prog 16 #[.slice A l.length c] w (AllPost l w) := by
  have HR := Aside0.mk hr
  clear hr
  go_enter Try.func16, Try.ntmps16
  go_wp2_with fail
  go_loopg [4, 11] l.length (fun gg v4 s11 wr => ∃ kk : Nat, kk ≤ l.length ∧ l.length - kk ≤ gg ∧ s11 = .int .i64 kk ∧ Aside0 (∀ r ∈ l.take kk, recOk r = true) ∧ Aside0 (Kd.R (Kd.int .u8) 5 wr w.heap.size (fun _ => True) v4 (allB (l.take kk))) ∧ Aside0 (Below w.heap.size w wr))
  case atStart => exact ⟨0, by omega, by omega, rfl, ⟨by simp⟩, ⟨Kd.R_nil _ _ _ _ _⟩, ⟨Below.refl _ _⟩⟩
  case round =>
    obtain ⟨kk, hkk, hg, rfl, HAk, HOk, HBk⟩ := hrel
    by_cases hlt : kk < l.length
    · have hltz : (kk : Int) < (l.length : Int) := by omega
      obtain ⟨ad, A5, c5, A6, c6, hA, p0, p1, p2, p3, p4, p5, p6, hc5, h5, hc6, h6⟩ := P.at_T28 (Kd.C_below HR.out HBk.out) (kk : Int) (by omega) (by omega)
      subst hA
      simp only [Int.toNat_natCast] at p0 p1 p2 p3 p4 p5 p6
      have hxe : P.rd_T28 l (kk : Int) = l[kk] := by unfold P.rd_T28; rw [Int.toNat_natCast]; exact getD_of_lt l kk _ hlt
      have HXE := Aside0.mk hxe
      clear hxe
      generalize P.rd_T28 l (kk : Int) = x at *
      obtain ⟨a0, a1, a2, a3, a4, l5, l6⟩ := x
      simp only at p0 p1 p2 p3 p4 p5 p6 hc5 h5 hc6 h6
      obtain ⟨wb, hwb⟩ : ∃ wb, wb = wr.alloc (.cells #[.int .i64 a0, .int .u64 a1, .int .u64 a2, .int .i64 a3, .int .i64 a4, .slice A5 l5.length c5, .slice A6 l6.length c6] 28) := ⟨_, rfl⟩
      have HX := Aside0.mk (show wb.heap[wr.heap.size]? = some (.cells #[.int .i64 a0, .int .u64 a1, .int .u64 a2, .int .i64 a3, .int .i64 a4, .slice A5 l5.length c5, .slice A6 l6.length c6] 28 (0, 0)) by rw [hwb]; exact heap_alloc_new _ _)
      have hbb : Below wr.heap.size wr wb := by rw [hwb]; exact (Below.refl _ _).alloc (Nat.le_refl _) _
      have HW := Aside0.mk hwb
      have HBb := Aside0.mk (below_step HBk.out hbb)
      have HOb := Aside0.mk (Kd.R_below HOk.out hbb)
      have H5 := Aside0.mk (Kd.C_below h5 hbb)
      have H6 := Aside0.mk (Kd.C_below h6 hbb)
      have HC6 := Aside0.mk hc6
      clear hwb hbb h5 h6 hc6
      go_upto_region 5 with (fail)
      rw [← HW.out]
      have x0 : wb.cell? ⟨wr.heap.size, 0, none⟩ = some (.int .i64 a0) := (blk_cell HX.out 0).trans rfl
      have x1 : wb.cell? ⟨wr.heap.size, 1, none⟩ = some (.int .u64 a1) := (blk_cell HX.out 1).trans rfl
      have x2 : wb.cell? ⟨wr.heap.size, 2, none⟩ = some (.int .u64 a2) := (blk_cell HX.out 2).trans rfl
      have x3 : wb.cell? ⟨wr.heap.size, 3, none⟩ = some (.int .i64 a3) := (blk_cell HX.out 3).trans rfl
      have x4 : wb.cell? ⟨wr.heap.size, 4, none⟩ = some (.int .i64 a4) := (blk_cell HX.out 4).trans rfl
      have x5 : wb.cell? ⟨wr.heap.size, 5, none⟩ = some (.slice A5 l5.length c5) := (blk_cell HX.out 5).trans rfl
      have x6 : wb.cell? ⟨wr.heap.size, 6, none⟩ = some (.slice A6 l6.length c6) := (blk_cell HX.out 6).trans rfl
      clear p0 p1 p2 p3 p4 p5 p6
      cases hok : recOk ⟨a0, a1, a2, a3, a4, l5, l6⟩ with
      | false =>
        have HE := Aside0.mk (encNo a0 a1 a2 a3 a4 l5 l6 A5 c5 A6 c6 wb H5.out hc5 H6.out hok)
        have HNO := Aside0.mk (show l.all recOk = false by
          rw [List.all_eq_false]
          exact ⟨l[kk], List.getElem_mem hlt, by rw [← HXE.out, hok]; decide⟩)
        clear hok
        go_wp2_with (go_at_call 51; refine HE.out.mono ?_; rintro e w2 ⟨rfl, hb⟩; have HB2 := Aside0.mk (below_step HBb.out hb); clear hb)
        go_returns
        unfold AllPost
        exact ⟨fun h => absurd h (by rw [HNO.out]; decide), fun _ => rfl, HB2.out⟩
      | true =>
        have HE := Aside0.mk (encYes a0 a1 a2 a3 a4 l5 l6 A5 c5 A6 c6 wb H5.out hc5 H6.out hok)
        have hlB := allB_le (l.take kk) HAk.out
        rw [List.length_take] at hlB
        have hlB2 : (allB (l.take kk)).length ≤ 4002000 := by omega
        have hrl : (recB a0 a1 a2 a3 a4 l5 l6).length ≤ 4000 := recBs_le hok
        have HNX := Aside0.mk (show allB (l.take (kk + 1)) = allB (l.take kk) ++ putBytes 2 ((recB a0 a1 a2 a3 a4 l5 l6).length : Int) ++ recB a0 a1 a2 a3 a4 l5 l6 by rw [allB_step l kk hlt, ← HXE.out]; rfl)
        have HAN := Aside0.mk (show ∀ r ∈ l.take (kk + 1), recOk r = true from fun r hr => by
          rw [List.take_succ_eq_append_getElem hlt, List.mem_append, List.mem_singleton] at hr
          rcases hr with hr | rfl
          · exact HAk.out r hr
          · rw [← HXE.out]; exact hok)
        clear hok hlB
        generalize recB a0 a1 a2 a3 a4 l5 l6 = B at *
        generalize allB (l.take kk) = L at *
        obtain ⟨AL, cL, rfl, hlL, hCL⟩ := Kd.R_reads HOb.out
        clear hCL
        have HPUT := Aside0.mk (fun (W : World) (h : Below wb.heap.size wb W) => P.field_Put.calls 20 AL cL L 2 (B.length : Int) (L ++ putBytes 2 (B.length : Int)) W (Kd.C_below (Kd.R_reads' HOb.out).2.2 h) hlL (put_is L 2 _ 20 (by omega) (by omega)))
        have hpl : (L ++ putBytes 2 (B.length : Int)).length ≤ 4002002 := by rw [List.length_append, put2_len]; omega
        generalize L ++ putBytes 2 (B.length : Int) = L2 at *
        go_wp2_with (first
          | (go_at_call 51; refine HE.out.mono ?_; rintro e w2 ⟨v, rfl, ho, hb⟩; obtain ⟨AB, cB, hv⟩ := Kd.R_slice ho; subst hv; have HB2 := Aside0.mk (below_step HBb.out hb); have HOB := Aside0.mk ho; have HBE := Aside0.mk hb; clear hb ho)
          | (go_at_call 57; refine (HPUT.out _ HBE.out).mono ?_; rintro e w3 ⟨v3, rfl, ho, hb⟩; obtain ⟨A3, c3, hv3⟩ := Kd.R_slice ho; subst hv3; have HO3 := Aside0.mk (Kd.R_lower ho (below_size HB2.out)); have HB3 := Aside0.mk (below_step HB2.out hb); have HOB3 := Aside0.mk (Kd.C_below (Kd.R_reads' HOB.out).2.2 hb); clear ho hb)
          | ((with_reducible refine gate_builtin (b := .append) (xs := #[.tmp 27, .tmp 28]) rfl ?_); at_builtin; refine Kd.R_append_rows (Kd.int .u8) (w0 := w) w.heap.size rfl (.tmp 27) (.tmp 28) 30 5 (.int .u8 0) 1 rfl Try.underlying30 info_u8 rfl (by decide) (by omega) (.slice A3 L2.length c3) L2 B _ _ _ (fun _ => True) (fun _ => False) rfl rfl HO3.out HOB3.out (fun _ _ h => h) (fun _ h => h.elim) (fun _ _ => trivial) HB3.out (below_size HB3.out) (by omega) ?_; intro v4 w4 ho hb hgr hat; clear hat hgr; have HO4 := Aside0.mk ho; have HB4 := Aside0.mk hb; clear ho hb))
        rw [← HNX.out] at HO4
        go_roundg (l.length - (kk + 1))
        case measure => omega
        case rel => exact ⟨kk + 1, by omega, by omega, by go_num, HAN, HO4, HB4⟩
    · have hltz : ¬ (kk : Int) < (l.length : Int) := by omega
      have ha := HAk.out
      have ho := HOk.out
      rw [List.take_of_length_le (by omega)] at ha ho
      have HO := Aside0.mk ho
      have HYES := Aside0.mk (show l.all recOk = true by rw [List.all_eq_true]; exact ha)
      clear ha ho
      go_wp2_with fail
      go_returns
      unfold AllPost
      exact ⟨fun _ => ⟨_, rfl, HO.out⟩, fun h => absurd h (by rw [HYES.out]; decide), HBk.out⟩
end

section
open Go.Shelf Go.RowKit Go.Proofs.YtngjaaldidmgjaaW.PrintWords Go.Proofs.YtngjaaldidmgjaaW.PrintLast Go.Proofs.YtngjaaldidmgjaaW.PrintMore
set_option linter.unusedVariables false
set_option linter.unusedSimpArgs false

/-- The records from place pl on. -/
def ownN (bs : List Int) (pl : Nat) : Int := num (scTake bs pl false 2)
def ownB (bs : List Int) (pl : Nat) : List Int := scTake bs (scPl bs.length pl false 2) (scBad bs.length pl false 2) (ownN bs pl)
def ownPl (bs : List Int) (pl : Nat) : Nat := scPl bs.length (scPl bs.length pl false 2) (scBad bs.length pl false 2) (ownN bs pl)
def ownBad (bs : List Int) (pl : Nat) : Bool := scBad bs.length (scPl bs.length pl false 2) (scBad bs.length pl false 2) (ownN bs pl)
def parseGo (bs : List Int) : Nat → Nat → Option (List Rc)
  | 0, _ => none
  | k + 1, pl => if bs.length ≤ pl then some [] else if decOk (ownB bs pl) = true then (parseGo bs k (ownPl bs pl)).map (fun l => (sDec (ownB bs pl)).rec_ :: l) else none
def parseR (bs : List Int) : Option (List Rc) := parseGo bs (bs.length + 1) 0

theorem info_rec : (Try.prog.info? 28).map (fun i => (i.zero, i.size, i.bytes)) = some (some (.agg #[.int .i64 0, .int .u64 0, .int .u64 0, .int .i64 0, .int .i64 0, .slice none 0 0, .slice none 0 0]), 7, 88) := by kernel_rfl
theorem decOk_nil : decOk [] = false := rfl
theorem own_good {bs : List Int} {pl : Nat} (h : decOk (ownB bs pl) = true) : ownBad bs pl = false ∧ pl + 2 ≤ ownPl bs pl := by
  have h1 : fits bs.length (scPl bs.length pl false 2) (scBad bs.length pl false 2) (ownN bs pl) = true := by
    cases hf : fits bs.length (scPl bs.length pl false 2) (scBad bs.length pl false 2) (ownN bs pl)
    · have : ownB bs pl = [] := scTake_no hf
      rw [this, decOk_nil] at h
      cases h
    · rfl
  refine ⟨scBad_yes h1, ?_⟩
  have h2 := ((fits_iff _ _ _ _).1 h1).1
  have h3 : fits bs.length pl false 2 = true := by
    cases hf : fits bs.length pl false 2
    · rw [scBad_no hf] at h2; cases h2
    · rfl
  have h4 : scPl bs.length pl false 2 = pl + 2 := scPl_yes (n := 2) h3
  have h5 : ownPl bs pl = scPl bs.length pl false 2 + (ownN bs pl).toNat := by unfold ownPl; rw [scPl, if_pos h1]
  omega
theorem parse_step {bs : List Int} {k pl : Nat} {xs : List Rc} {R : Option (List Rc)} (h : R = (parseGo bs (k + 1) pl).map (fun l => xs ++ l)) (hlt : pl < bs.length) (hok : decOk (ownB bs pl) = true) :
    R = (parseGo bs k (ownPl bs pl)).map (fun l => (xs ++ [(sDec (ownB bs pl)).rec_]) ++ l) := by
  rw [h, parseGo, if_neg (by omega), if_pos hok, Option.map_map]
  congr 1
  funext l
  simp
def ParsePost (bs : List Int) (w : World) (e : Ending) (w' : World) : Prop :=
  (∀ l, parseR bs = some l → ∃ v, e = .returned (.tuple #[v, .int .i64 0]) ∧ Kd.N kRc 28 w' w.heap.size (fun k => w.heap.size ≤ k) v l) ∧
  (parseR bs = none → e = .returned (.tuple #[.slice none 0 0, .int .i64 172])) ∧ Below w.heap.size w w'

theorem scTake_sub {bs : List Int} {pl : Nat} {b : Bool} {n : Int} : ∀ x ∈ scTake bs pl b n, x ∈ bs := by
  intro x hx
  unfold scTake at hx
  split at hx
  · exact List.mem_of_mem_drop (List.mem_of_mem_take hx)
  · cases hx
theorem scTake_len (bs : List Int) (pl : Nat) (b : Bool) (n : Int) : (scTake bs pl b n).length ≤ bs.length := by
  unfold scTake
  split
  · rw [List.length_take, List.length_drop]; omega
  · exact Nat.zero_le _

set_option maxHeartbeats 4000000 in
set_option maxRecDepth 100000 in
theorem recParse (A : Option Addr) (c : Nat) (bs : List Int) (w : World) (hr : Kd.C (Kd.int .u8) w A bs.length bs) (hc : bs.length ≤ c) (hl : bs.length ≤ 1000000) (hby : ∀ x ∈ bs, 0 ≤ x ∧ x ≤ 255) :
    Calls Try.prog 18 #[.slice A bs.length c] w (ParsePost bs w) := by
  have HRD := Aside0.mk (ScRead A c bs w hr hc (by omega) hby)
  have HBY := Aside0.mk hby
  clear hr hby
  obtain ⟨R, hR⟩ : ∃ R, R = parseR bs := ⟨_, rfl⟩
  have HPR := Aside0.mk hR
  have HRS := Aside0.mk (show R = (parseGo bs (bs.length + 1) 0).map (fun l => [] ++ l) by rw [hR]; unfold parseR; cases parseGo bs (bs.length + 1) 0 <;> rfl)
  clear hR
  go_enter Try.func18, Try.ntmps18
  go_wp2_with fail
  refine HRD.out.mono ?_
  rintro e w1 ⟨g, rfl, hi, hb⟩
  have HI1 := Aside0.mk (hi.bound.mono (ok' := fun k => w.heap.size ≤ k ∧ k < w1.heap.size) (fun k hk => ⟨hk.2.1, hk.2.2⟩))
  have HB1 := Aside0.mk hb
  have HGW := Aside0.mk hi.lt
  have HGE := Aside0.mk hi.ge
  clear hi hb HRD
  go_wp2_with fail
  go_loopg [5] bs.length (fun gg v5 wr => ∃ (pl : Nat) (xs : List Rc) (kf : Nat), pl ≤ bs.length ∧ bs.length - pl ≤ gg ∧ Aside0 (xs.length ≤ pl) ∧ Aside0 (bs.length - pl ≤ kf ∧ R = (parseGo bs (kf + 1) pl).map (fun l => xs ++ l)) ∧ Aside0 (Kd.N kRc 28 wr w1.heap.size (fun k => w1.heap.size ≤ k) v5 xs) ∧ Aside0 (IsScan wr w.heap.size (fun k => w.heap.size ≤ k ∧ k < w1.heap.size) g bs pl false) ∧ Aside0 (Below w.heap.size w wr ∧ w1.heap.size ≤ wr.heap.size))
  case atStart => exact ⟨0, [], bs.length, by omega, by omega, ⟨Nat.zero_le _⟩, ⟨Nat.sub_le _ _, HRS.out⟩, ⟨Kd.N_nil _ _ _ _ _⟩, HI1, ⟨HB1.out, Nat.le_refl _⟩⟩
  case round =>
    obtain ⟨pl, xs, kf, hpl, hg, HXL, HRk, HOk, HIk, HBk⟩ := hrel
    have HL := Aside0.mk (ScLeft _ _ g bs pl false wr HIk.out)
    by_cases hlt : pl < bs.length
    · have hltz : (pl : Int) < (bs.length : Int) := by omega
      have hn0 := scTake_range bs pl false 2 HBY.out
      rw [show (256 : Int) ^ (2 : Int).toNat = 65536 by decide, show num (scTake bs pl false 2) = ownN bs pl from rfl] at hn0
      obtain ⟨hna, hnb⟩ := hn0
      have HN := Aside0.mk (fun (W : World) (h : IsScan W w.heap.size (fun k => w.heap.size ≤ k ∧ k < w1.heap.size) g bs pl false) => ScNum _ _ g bs pl false 2 W h)
      rw [show sizeOr 2 = 2 from rfl, show num (scTake bs pl false 2) = ownN bs pl from rfl] at HN
      have HBS := Aside0.mk (fun (W : World) (h : IsScan W w.heap.size (fun k => w.heap.size ≤ k ∧ k < w1.heap.size) g bs (scPl bs.length pl false 2) (scBad bs.length pl false 2)) => ScBytes _ _ g bs _ _ (ownN bs pl) W h)
      rw [show scTake bs (scPl bs.length pl false 2) (scBad bs.length pl false 2) (ownN bs pl) = ownB bs pl from rfl, show scPl bs.length (scPl bs.length pl false 2) (scBad bs.length pl false 2) (ownN bs pl) = ownPl bs pl from rfl, show scBad bs.length (scPl bs.length pl false 2) (scBad bs.length pl false 2) (ownN bs pl) = ownBad bs pl from rfl] at HBS
      have HGOOD := Aside0.mk (own_good (bs := bs) (pl := pl))
      have hol : (ownB bs pl).length ≤ bs.length := scTake_len _ _ _ _
      have HOB := Aside0.mk (show ∀ x ∈ ownB bs pl, 0 ≤ x ∧ x ≤ 255 from fun x hx => HBY.out x (scTake_sub x hx))
      have HST := Aside0.mk (parse_step (bs := bs) (xs := xs) (R := R) HRk.out.2 hlt)
      have HNO := Aside0.mk (show decOk (ownB bs pl) = false → R = none from fun h => by rw [HRk.out.2, parseGo, if_neg (by omega), if_neg (by rw [h]; decide)]; rfl)
      generalize scPl bs.length pl false 2 = p1 at *
      generalize scBad bs.length pl false 2 = s1 at *
      generalize ownB bs pl = own at *
      generalize ownPl bs pl = p2 at *
      generalize ownBad bs pl = s2 at *
      generalize ownN bs pl = n at *
      have HDEC := Aside0.mk (fun (A' : Option Addr) (c' : Nat) (W : World) (h : Kd.C (Kd.int .u8) W A' own.length own) (hc' : own.length ≤ c') => decGo A' c' own W h hc' (by omega) HOB.out)
      generalize hdk : decOk own = dk at *
      generalize sDec own = d at *
      have HDK := Aside0.mk hdk
      clear hdk
      obtain ⟨wo, rfl⟩ : ∃ wo, wo = wr := ⟨_, rfl⟩
      go_upto_region 5 with (first
        | (go_at_call 59; refine HL.out.mono ?_; rintro e w2 ⟨rfl, hd⟩; have HI2 := Aside0.mk (HIk.out.fr (Fr.of_below (S := fun _ => False) hd.below) (fun _ _ h => h)); have HF2 := Aside0.mk (Fr.of_below (S := (· = g)) hd.below); clear hd)
        | (go_at_call 61; refine (HN.out _ HI2.out).mono ?_; rintro e w3 ⟨rfl, hi, hf⟩; have HI3 := Aside0.mk hi; have HF3 := Aside0.mk (HF2.out.trans hf); clear hi hf)
        | (go_at_call 60; refine (HBS.out _ HI3.out).mono ?_; rintro e w4 ⟨v4, rfl, ho, hi, hf⟩; obtain ⟨A4, c4, hv4, hc4, hC4⟩ := Kd.R_reads ho; subst hv4; have HI4 := Aside0.mk hi; have HF4 := Aside0.mk (HF3.out.trans hf); have HC4 := Aside0.mk hC4; have HCC := Aside0.mk hc4; clear hi hf ho hC4 hc4))
      have hn5 := HF4.out.size
      cases dk with
      | false =>
        clear HST HGOOD
        have HRN := Aside0.mk (HNO.out rfl)
        clear HNO
        go_upto_region 6 with (go_at_call 46; refine (HDEC.out A4 c4 w4 HC4.out HCC.out).mono ?_; rintro e w5 ⟨_, hno, hb⟩; obtain rfl := hno rfl; have HB5 := Aside0.mk hb; clear hno hb)
        obtain ⟨wb, hwb⟩ : ∃ wb, wb = w5.alloc (.cells #[.int .i64 0, .int .u64 0, .int .u64 0, .int .i64 0, .int .i64 0, .slice none 0 0, .slice none 0 0] 28) := ⟨_, rfl⟩
        rw [← hwb]
        have hbb : Below w4.heap.size w4 wb := by rw [hwb]; exact below_alloc HB5.out _
        have HBD := Aside0.mk (ScBadq _ _ g bs p2 s2 wb (HI4.out.fr (Fr.of_below (S := fun _ => False) hbb) (fun _ _ h => h)))
        have HBb := Aside0.mk (show Below w.heap.size w wb from below_step (below_step' HBk.out.1 (Below.refl _ _) HF4.out (fun k hk => by rw [hk]; have := HGE.out; omega)) hbb)
        clear hwb hbb
        have HEND := Aside0.mk (show ∀ W, Below wb.heap.size wb W → ParsePost bs w (.returned (.tuple #[.slice none 0 0, .int .i64 172])) W from fun W h => by
          unfold ParsePost
          rw [← HPR.out, HRN.out]
          exact ⟨fun l hl => (nomatch hl), fun _ => rfl, below_step HBb.out h⟩)
        cases s2 with
        | true =>
          go_wp2_with (go_at_call 62; refine HBD.out.mono ?_; rintro e w6 ⟨rfl, hd⟩; have HD6 := Aside0.mk hd.below; clear hd)
          go_returns
          exact HEND.out _ HD6.out
        | false =>
          go_wp2_with (go_at_call 62; refine HBD.out.mono ?_; rintro e w6 ⟨rfl, hd⟩; have HD6 := Aside0.mk hd.below; clear hd)
          go_returns
          exact HEND.out _ HD6.out
      | true =>
        obtain ⟨hs2, hp2⟩ := HGOOD.out rfl
        subst hs2
        have HST2 := Aside0.mk (HST.out rfl)
        have HPL := Aside0.mk hp2
        clear HNO HST HGOOD hp2
        go_upto_region 6 with (go_at_call 46; refine (HDEC.out A4 c4 w4 HC4.out HCC.out).mono ?_; rintro e w5 ⟨hyes, _, hb⟩; obtain ⟨A5, c5, A6, c6, rfl, ⟨f5, l5⟩, ⟨f6, l6⟩⟩ := hyes rfl; have HB5 := Aside0.mk hb; have HF5 := Aside0.mk f5; have HL5 := Aside0.mk l5; have HF6 := Aside0.mk f6; have HL6 := Aside0.mk l6; clear hyes hb f5 l5 f6 l6)
        obtain ⟨wb, hwb⟩ : ∃ wb, wb = w5.alloc (.cells #[.int .i64 d.a0, .int .u64 d.a1, .int .u64 d.a2, .int .i64 d.a3, .int .i64 d.a4, .slice A5 d.l5.length c5, .slice A6 d.l6.length c6] 28) := ⟨_, rfl⟩
        rw [← hwb]
        have hb5 : Below w5.heap.size w5 wb := by rw [hwb]; exact below_alloc (Below.refl _ _) _
        have hbb : Below w4.heap.size w4 wb := below_step HB5.out hb5
        have HXb := Aside0.mk (show wb.heap[w5.heap.size]? = some (.cells #[.int .i64 d.a0, .int .u64 d.a1, .int .u64 d.a2, .int .i64 d.a3, .int .i64 d.a4, .slice A5 d.l5.length c5, .slice A6 d.l6.length c6] 28 (0, 0)) by rw [hwb]; exact heap_alloc_new _ _)
        have HBD := Aside0.mk (ScBadq _ _ g bs p2 false wb (HI4.out.fr (Fr.of_below (S := fun _ => False) hbb) (fun _ _ h => h)))
        have HBb := Aside0.mk (show Below w.heap.size w wb from below_step (below_step' HBk.out.1 (Below.refl _ _) HF4.out (fun k hk => by rw [hk]; have := HGE.out; omega)) hbb)
        have hbk2 := HBk.out.2
        have hz4 := hbb.size
        have HNb := Aside0.mk (show Kd.N kRc 28 wb w1.heap.size (fun k => w1.heap.size ≤ k ∧ k < wo.heap.size) u5 xs from Kd.N_below (Kd.N_step (Kd.N_mono (Kd.N_bound HOk.out) (fun k hk => hk)) (fun k hk hlt => HF4.out.block hlt (fun e => by have := HGW.out; omega))) hbb)
        have HIb := Aside0.mk (HI4.out.fr (Fr.of_below (S := fun _ => False) hbb) (fun _ _ h => h))
        have HFa := Aside0.mk (Kd.F_below (Kd.F_bound HF5.out) hb5)
        have HFb := Aside0.mk (Kd.F_below (Kd.F_bound HF6.out) hb5)
        have HLT := Aside0.mk (Kd.N_lt HOk.out)
        have hxl := HXL.out
        clear hwb hb5 hbb
        go_wp2_with (first
          | (go_at_call 62; refine HBD.out.mono ?_; rintro e w6 ⟨rfl, hd⟩; have x0 : w6.cell? ⟨w5.heap.size, 0, none⟩ = some (.int .i64 d.a0) := (blk_cell (blk_below HXb.out hd.below) 0).trans rfl; have x1 : w6.cell? ⟨w5.heap.size, 1, none⟩ = some (.int .u64 d.a1) := (blk_cell (blk_below HXb.out hd.below) 1).trans rfl; have x2 : w6.cell? ⟨w5.heap.size, 2, none⟩ = some (.int .u64 d.a2) := (blk_cell (blk_below HXb.out hd.below) 2).trans rfl; have x3 : w6.cell? ⟨w5.heap.size, 3, none⟩ = some (.int .i64 d.a3) := (blk_cell (blk_below HXb.out hd.below) 3).trans rfl; have x4 : w6.cell? ⟨w5.heap.size, 4, none⟩ = some (.int .i64 d.a4) := (blk_cell (blk_below HXb.out hd.below) 4).trans rfl; have x5 : w6.cell? ⟨w5.heap.size, 5, none⟩ = some (.slice A5 d.l5.length c5) := (blk_cell (blk_below HXb.out hd.below) 5).trans rfl; have x6 : w6.cell? ⟨w5.heap.size, 6, none⟩ = some (.slice A6 d.l6.length c6) := (blk_cell (blk_below HXb.out hd.below) 6).trans rfl; have HN6 := Aside0.mk (Kd.N_mono (Kd.N_below HNb.out hd.below) (ok' := fun k => w1.heap.size ≤ k) (fun k hk => hk.1)); have HI6 := Aside0.mk (HIb.out.fr (Fr.of_below (S := fun _ => False) hd.below) (fun _ _ h => h)); have HB6 := Aside0.mk (below_step HBb.out hd.below); have HFa6 := Aside0.mk (Kd.F_below HFa.out hd.below); have HFb6 := Aside0.mk (Kd.F_below HFb.out hd.below); have hz6 := hd.below.size; clear hd)
          | ((with_reducible refine gate_builtin (b := .append) (xs := #[.tmp 30, .tmp 32]) rfl ?_); at_builtin; refine Kd.N_append kRc (w0 := w6) w1.heap.size rfl (.tmp 30) (.tmp 32) 22 28 (.agg #[.int .i64 0, .int .u64 0, .int .u64 0, .int .i64 0, .int .i64 0, .slice none 0 0, .slice none 0 0]) 88 rfl Try.underlying22 info_rec rfl (by decide) (by omega) u5 xs d.rec_ [.int .i64 d.a0, .int .u64 d.a1, .int .u64 d.a2, .int .i64 d.a3, .int .i64 d.a4, .slice A5 d.l5.length c5, .slice A6 d.l6.length c6] (fun k => w1.heap.size ≤ k) (fun k => w4.heap.size < k) rfl rfl (P.k28_mkF _ _ d.rec_ HL5.out (Kd.F_mono HFa6.out (fun k hk => hk.1)) HL6.out (Kd.F_mono HFb6.out (fun k hk => hk.1))) (fun k hk => ⟨by omega, fun e => by have h2 := HLT.out k e.symm; omega⟩) (fun k hk => by omega) HN6.out (Below.refl _ _) (by omega) (by omega) ?_; intro v6 w7 ho hb hg6 hat; clear hg6 hat; have HO7 := Aside0.mk ho; have HI7 := Aside0.mk (HI6.out.step (fun k hk _ => hb.block k hk.2)); have HB7 := Aside0.mk (HB6.out.trans (Below.less hb (below_size HB1.out))); have HS7 := Aside0.mk hb.size; clear ho hb))
        have hp2 := HPL.out
        have hpb := HI7.out.place
        have hkf := HRk.out.1
        obtain ⟨kf2, rfl⟩ : ∃ m, kf = m + 1 := ⟨kf - 1, by omega⟩
        go_roundg (bs.length - p2)
        case measure => omega
        case rel => exact ⟨p2, xs ++ [d.rec_], kf2, hpb, Nat.le_refl _, ⟨by rw [List.length_append]; simp; omega⟩, ⟨by omega, HST2.out⟩, HO7, HI7, ⟨HB7.out, by have h1 := HBk.out.2; have h2 := HS7.out; have h3 := HF4.out.size; omega⟩⟩
    · have hltz : ¬ (pl : Int) < (bs.length : Int) := by omega
      have hres : R = some xs := by rw [HRk.out.2, parseGo, if_pos (by omega)]; simp
      have HRES := Aside0.mk hres
      clear hres
      go_wp2_with (go_at_call 59; refine HL.out.mono ?_; rintro e w2 ⟨rfl, hd⟩; have HO2 := Aside0.mk (Kd.N_below HOk.out hd.below); have HB2 := Aside0.mk (below_step HBk.out.1 hd.below); clear hd)
      go_returns
      unfold ParsePost
      rw [← HPR.out, HRES.out]
      exact ⟨fun l hl => by injection hl with hl; subst hl; exact ⟨_, rfl, Kd.N_mono (Kd.N_lower HO2.out (below_size HB1.out)) (fun k hk => Nat.le_trans (below_size HB1.out) hk)⟩, fun h => (nomatch h), HB2.out⟩
end

end Go.Proofs.Ytngjaaldidmgjaa.G
