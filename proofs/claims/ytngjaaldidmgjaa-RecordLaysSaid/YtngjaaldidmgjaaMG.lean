/- Contract of record.Decode. Contract of record.All. Contract of record.Parse. -/
import Derived.Test.YtngjaaldidmgjaaMF
namespace Go.Proofs.Ytngjaaldidmgjaa.G

section
open Go.Shelf Go.RowKit Go.Proofs.YtngjaaldidmgjaaW.PrintWords Go.Proofs.YtngjaaldidmgjaaW.PrintLast Go.Proofs.YtngjaaldidmgjaaW.PrintMore
set_option linter.unusedVariables false
set_option linter.unusedSimpArgs false

theorem equalIn_func {P : Program} (w : World) (d : Nat) (t : TypeId) {a b : Array TypeId} {v : Bool} (f : Fn) (x y : Array Value) (h : P.underlying t = some (.func a b v)) : (Op.equalIn (d + 1) t (.func f x y) .nilFunc).run P w = .ok false w := by
  simp [Op.equalIn, run_underlying h]
theorem equalIn_nilFunc {P : Program} (w : World) (d : Nat) (t : TypeId) {a b : Array TypeId} {v : Bool} (h : P.underlying t = some (.func a b v)) : (Op.equalIn (d + 1) t .nilFunc .nilFunc).run P w = .ok true w := by
  simp [Op.equalIn, run_underlying h]
theorem neq_func {P : Program} (w : World) (t : TypeId) {a b : Array TypeId} {v : Bool} (f : Fn) (x y : Array Value) (h : P.underlying t = some (.func a b v)) : (binOp .neq t (.func f x y) .nilFunc).run P w = .ok (.bool true) w := by
  simp only [binOp]
  simp [Op.equal, Op.maxDepth, equalIn_func w 9999 t f x y h]
theorem neq_nilFunc {P : Program} (w : World) (t : TypeId) {a b : Array TypeId} {v : Bool} (h : P.underlying t = some (.func a b v)) : (binOp .neq t .nilFunc .nilFunc).run P w = .ok (.bool false) w := by
  simp only [binOp]
  simp [Op.equal, Op.maxDepth, equalIn_nilFunc w 9999 t h]
/-- A box of seven cells written over. -/
theorem box7 {w w1 : World} {B t : Nat} {a b c d e f g v0 v1 v2 v3 v4 v5 v6 : Value} (h : w.heap[B]? = some (.cells #[a, b, c, d, e, f, g] t (0, 0))) (hw : w1 = (((((((w.setCell ⟨B, 0, none⟩ v0).setCell ⟨B, 1, none⟩ v1).setCell ⟨B, 2, none⟩ v2).setCell ⟨B, 3, none⟩ v3).setCell ⟨B, 4, none⟩ v4).setCell ⟨B, 5, none⟩ v5).setCell ⟨B, 6, none⟩ v6)) :
    w1.heap[B]? = some (.cells #[v0, v1, v2, v3, v4, v5, v6] t (0, 0)) ∧ Fr (· = B) w w1 := by
  subst hw
  constructor
  · have h1 := blk_set h 0 v0
    have h2 := blk_set h1 1 v1
    have h3 := blk_set h2 2 v2
    have h4 := blk_set h3 3 v3
    have h5 := blk_set h4 4 v4
    have h6 := blk_set h5 5 v5
    have h7 := blk_set h6 6 v6
    simpa using h7
  · exact (((((((Fr.refl (· = B) w).setCell (p := ⟨B, 0, none⟩) (.inl rfl) _).setCell (p := ⟨B, 1, none⟩) (.inl rfl) _).setCell (p := ⟨B, 2, none⟩) (.inl rfl) _).setCell (p := ⟨B, 3, none⟩) (.inl rfl) _).setCell (p := ⟨B, 4, none⟩) (.inl rfl) _).setCell (p := ⟨B, 5, none⟩) (.inl rfl) _).setCell (p := ⟨B, 6, none⟩) (.inl rfl) _
theorem below9 {W w w1 : World} (h : Below W.heap.size W w) (hf : Fr (· = W.heap.size) w w1) : Below W.heap.size W w1 :=
  below_step' h (Below.refl _ _) hf (fun k hk => by rw [hk]; exact Nat.le_refl _)

/-- What Decode has read: the record's fields, and where the reader is. -/
structure DR where
  (a0 a1 a2 a3 a4 : Int) (l5 : List Wr) (l6 : List (List Int)) (t : RS)
def sDec (bs : List Int) : DR :=
  let k := sVal bs 1 ⟨0, false, false⟩
  let t := sNum bs 1 ⟨0, false, false⟩
  if k = 1 then ⟨1, (sCommit bs t).1, 0, 0, 0, (sCommit bs t).2.1, [], (sCommit bs t).2.2⟩
  else if k = 2 then ⟨2, 0, 0, sVal bs 1 t, sVal bs 1 (sNum bs 1 t), [], [], sNum bs 1 (sNum bs 1 t)⟩
  else if k = 3 then ⟨3, 0, 0, sVal bs 1 t, 0, [], [], sNum bs 1 t⟩
  else if k = 4 then ⟨4, 0, 0, (sTrain bs t).1, 0, [], (sTrain bs t).2.1, (sTrain bs t).2.2⟩
  else if k = 5 then ⟨5, 0, sVal bs 8 t, 0, 0, [], [], sNum bs 8 t⟩
  else ⟨k, 0, 0, 0, 0, [], [], t⟩
def DR.rec_ (d : DR) : Rc := ⟨d.a0, d.a1, d.a2, d.a3, d.a4, d.l5, d.l6⟩
def decOk (bs : List Int) : Bool := (sDec bs).t.ok && (decide (bs.length ≤ (sDec bs).t.p) && recOk (sDec bs).rec_)

set_option maxHeartbeats 4000000 in
set_option maxRecDepth 100000 in
theorem decGo (A : Option Addr) (c : Nat) (bs : List Int) (W : World) (hr : Kd.C (Kd.int .u8) W A bs.length bs) (hc : bs.length ≤ c) (hl : bs.length < 140737488355328) (hby : ∀ x ∈ bs, 0 ≤ x ∧ x ≤ 255) :
    Calls Try.prog 46 #[.slice A bs.length c] W fun e w' =>
      (decOk bs = true → ∃ A5 c5 A6 c6, e = .returned (.tuple #[.agg #[.int .i64 (sDec bs).a0, .int .u64 (sDec bs).a1, .int .u64 (sDec bs).a2, .int .i64 (sDec bs).a3, .int .i64 (sDec bs).a4, .slice A5 (sDec bs).l5.length c5, .slice A6 (sDec bs).l6.length c6], .int .i64 0]) ∧
        (Kd.F kW w' (fun k => W.heap.size < k) A5 (sDec bs).l5.length (sDec bs).l5 ∧ (sDec bs).l5.length ≤ c5) ∧ (Kd.F kV w' (fun k => W.heap.size < k) A6 (sDec bs).l6.length (sDec bs).l6 ∧ (sDec bs).l6.length ≤ c6)) ∧
      (decOk bs = false → e = .returned (.tuple #[.agg #[.int .i64 0, .int .u64 0, .int .u64 0, .int .i64 0, .int .i64 0, .slice none 0 0, .slice none 0 0], .int .i64 172])) ∧ Below W.heap.size W w' := by
  obtain ⟨w1, hw1⟩ : ∃ w1, w1 = W.alloc (.cells #[.int .i64 0, .int .u64 0, .int .u64 0, .int .i64 0, .int .i64 0, .slice none 0 0, .slice none 0 0] 28) := ⟨_, rfl⟩
  have hB1 : Below W.heap.size W w1 := by rw [hw1]; exact (Below.refl _ _).alloc (Nat.le_refl _) _
  have hX := show w1.heap[W.heap.size]? = some (.cells #[.int .i64 0, .int .u64 0, .int .u64 0, .int .i64 0, .int .i64 0, .slice none 0 0, .slice none 0 0] 28 (0, 0)) by rw [hw1]; exact heap_alloc_new W _
  have HN0 := Aside0.mk (scTake_range bs 0 false 1 hby)
  have HR1 := Aside0.mk (Kd.C_below hr hB1)
  have HRD := Aside0.mk (ScRead A c bs w1 (Kd.C_below hr hB1) hc hl hby)
  have HW := Aside0.mk hw1
  have HB1 := Aside0.mk hB1
  have HX := Aside0.mk hX
  clear hw1 hB1 hX hr hby
  go_enter Try.func46, Try.ntmps46
  go_upto_region 1 with (fail)
  rw [← HW.out]
  go_wp2_with fail
  refine HRD.out.mono ?_
  rintro e w2 ⟨g, rfl, hi, hb⟩
  have hX2 := blk_below HX.out hb
  have hx1 : W.heap.size < w1.heap.size := blk_lt HX.out
  obtain ⟨w3, hw3⟩ : ∃ w3, w3 = w2.alloc (.cells #[.pointer (some ⟨g, 0, none⟩), .slice A bs.length c, .int .i64 0, .int .u64 0, .int .u64 0, .int .i64 0, .int .i64 0, .slice none 0 0, .slice none 0 0, .bool false] 113) := ⟨_, rfl⟩
  have hb23 : Below w2.heap.size w2 w3 := by rw [hw3]; exact (Below.refl _ _).alloc (Nat.le_refl _) _
  have hI3 : IsRr w1 w3 (fun k => w1.heap.size ≤ k ∧ k < w2.heap.size) w2.heap.size g (rcZ 0) A c bs 0 false false := by
    refine ⟨by rw [hw3]; exact heap_alloc_new w2 _, fun h => Nat.lt_irrefl _ h.2, fun h => by have := hi.lt; omega, below_size hb, ?_, below_step hb hb23, fun k hk => Nat.lt_of_lt_of_le hk.2 hb23.size⟩
    exact ((hi.bound).mono (fun k hk => ⟨hk.2.1, hk.2.2⟩)).fr (Fr.of_below (S := fun _ => False) hb23) (fun _ _ h => h)
  have HX3 := Aside0.mk (blk_below hX2 hb23)
  have HI3 := Aside0.mk hI3
  have HW3 := Aside0.mk hw3
  have HG := Aside0.mk (show W.heap.size ≠ g by have := hi.ge; omega)
  have HRX := Aside0.mk (show W.heap.size ≠ w2.heap.size by have := hb.size; omega)
  obtain ⟨q0, q1, q9⟩ := hI3.cells
  clear hw3 hI3 hX2 hb23 hb hi HRD
  go_upto_region 2 with (fail)
  rw [← HW3.out]
  have HN1 := Aside0.mk (ScNum _ _ g bs 0 false 1 w3 HI3.out.scan)
  rw [show sizeOr 1 = 1 from rfl, show num (scTake bs 0 false 1) = sVal bs 1 ⟨0, false, false⟩ from rfl, show scPl bs.length 0 false 1 = (sNum bs 1 ⟨0, false, false⟩).p from rfl, show scBad bs.length 0 false 1 = (sNum bs 1 ⟨0, false, false⟩).s from rfl] at HN1
  have hn0 := HN0.out
  rw [show (256 : Int) ^ (1 : Int).toNat = 256 by decide, show num (scTake bs 0 false 1) = sVal bs 1 ⟨0, false, false⟩ from rfl] at hn0
  obtain ⟨hna, hnb⟩ := hn0
  have HI3' := Aside0.mk (show IsRr w1 w3 (fun k => w1.heap.size ≤ k ∧ k < w2.heap.size) w2.heap.size g (rcZ 0) A c bs 0 false (sNum bs 1 ⟨0, false, false⟩).b from HI3.out)
  clear HI3 HN0
  obtain ⟨d, hd⟩ : ∃ d, d = sDec bs := ⟨_, rfl⟩
  have HD := Aside0.mk hd
  unfold sDec at hd
  simp only at hd
  have HDD := Aside0.mk hd
  clear hd
  generalize sVal bs 1 ⟨0, false, false⟩ = k at *
  generalize sNum bs 1 ⟨0, false, false⟩ = t1 at *
  go_wp2_with fail
  refine HN1.out.mono ?_
  rintro e w4 ⟨rfl, hi, hf⟩
  have hI4 := HI3'.out.fr hf hi
  have hX4 := hf.blk HX3.out HG.out
  have f2 : w4.frozen? ⟨w2.heap.size, 2, none⟩ = false := blk_frozen hI4.1 2
  have q2 : w4.cell? ⟨w2.heap.size, 2, none⟩ = some (.int .i64 0) := (blk_cell hI4.1 2).trans rfl
  obtain ⟨w5, hw5⟩ : ∃ w5, w5 = w4.setCell ⟨w2.heap.size, 2, none⟩ (.int .i64 k) := ⟨_, rfl⟩
  have HI5 := Aside0.mk (show IsRr w1 w5 (fun k => w1.heap.size ≤ k ∧ k < w2.heap.size) w2.heap.size g (rcZ k) A c bs t1.p t1.s t1.b by rw [hw5]; exact hI4.set 2 _ (rcZ k) _ rfl)
  have HX5 := Aside0.mk (show w5.heap[W.heap.size]? = some (.cells #[.int .i64 0, .int .u64 0, .int .u64 0, .int .i64 0, .int .i64 0, .slice none 0 0, .slice none 0 0] 28 (0, 0)) by rw [hw5]; exact blk_far hX4 (p := ⟨w2.heap.size, 2, none⟩) HRX.out _)
  have HW5 := Aside0.mk hw5
  clear q0 q1 q9 hi hf hI4 hX4 hw5 HI3' HX3 HN1 HW3 HW
  go_upto_region 3 with (fail)
  rw [← HW5.out]
  clear f2 q2 HW5
  obtain ⟨m0, hm0⟩ : ∃ m0, m0 = w5.alloc (.map #[] 0) := ⟨_, rfl⟩
  have hmm : (Instr.makeMap 114 none).run Try.prog w5 = .ok (.map (some w5.heap.size)) m0 := by rw [hm0]; exact run_makeMap _ _
  have b0 : m0.heap[w5.heap.size]? = some (.map #[] 0) := by rw [hm0]; exact heap_alloc_new _ _
  have B0 : Below w5.heap.size w5 m0 := by rw [hm0]; exact below_alloc (Below.refl _ _) _
  clear hm0
  obtain ⟨m1, s1, b1, B1⟩ := map_put (P := Try.prog) w5 m0 w5.heap.size _ _ 1 (.func (.func 76) #[.pointer (some ⟨w2.heap.size, 0, none⟩)] #[]) Try.underlying114 Try.underlying3 b0 (by first | rfl | simp [Instr.findNow, Instr.sameNow]) B0 (Nat.le_refl _)
  obtain ⟨m2, s2, b2, B2⟩ := map_put (P := Try.prog) w5 m1 w5.heap.size _ _ 2 (.func (.func 77) #[.pointer (some ⟨w2.heap.size, 0, none⟩)] #[]) Try.underlying114 Try.underlying3 b1 (by first | rfl | simp [Instr.findNow, Instr.sameNow]) B1 (Nat.le_refl _)
  obtain ⟨m3, s3, b3, B3⟩ := map_put (P := Try.prog) w5 m2 w5.heap.size _ _ 3 (.func (.func 78) #[.pointer (some ⟨w2.heap.size, 0, none⟩)] #[]) Try.underlying114 Try.underlying3 b2 (by first | rfl | simp [Instr.findNow, Instr.sameNow]) B2 (Nat.le_refl _)
  obtain ⟨m4, s4, b4, B4⟩ := map_put (P := Try.prog) w5 m3 w5.heap.size _ _ 4 (.func (.func 79) #[.pointer (some ⟨w2.heap.size, 0, none⟩)] #[]) Try.underlying114 Try.underlying3 b3 (by first | rfl | simp [Instr.findNow, Instr.sameNow]) B3 (Nat.le_refl _)
  obtain ⟨m5, s5, b5, B5⟩ := map_put (P := Try.prog) w5 m4 w5.heap.size _ _ 5 (.func (.func 80) #[.pointer (some ⟨w2.heap.size, 0, none⟩)] #[]) Try.underlying114 Try.underlying3 b4 (by first | rfl | simp [Instr.findNow, Instr.sameNow]) B4 (Nat.le_refl _)
  clear b0 b1 b2 b3 b4 B0 B1 B2 B3 B4
  have hI6 := HI5.out.below B5
  have HI6 := Aside0.mk hI6
  have HX6 := Aside0.mk (blk_below HX5.out B5)
  have HM := Aside0.mk b5
  have q2 : m5.cell? ⟨w2.heap.size, 2, none⟩ = some (.int .i64 k) := (blk_cell hI6.1 2).trans rfl
  have HSZ := Aside0.mk (show W.heap.size < m5.heap.size by have h1 := blk_lt HX6.out; exact h1)
  clear hI6 HI5 HX5 B5 b5
  go_upto_region 4 with (fail)
  rename_i K1 hK1 K0 hK0
  have tail : ∀ (a : Act) (wc : World) (u1 u5 u6 u7 u8 u9 u10 u11 u12 u13 u14 u15 u16 u17 u18 u19 u20 u21 u22 u23 u24 u25 u26 u27 u28 u29 u30 u31 u32 u33 u34 u35 u36 u37 u38 u39 u40 u41 u42 u43 u44 u45 u46 u47 u48 u49 u50 u51 u52 u53 u54 u55 u56 u57 u58 u59 u60 u61 u62 u63 u64 u65 u66 u67 u68 : Value) (A5 : Option Addr) (c5 : Nat) (A6 : Option Addr) (c6 : Nat), a = ⟨#[.slice A bs.length c, u1, .pointer (some ⟨W.heap.size, 0, none⟩), .int .i64 0, .pointer (some ⟨w2.heap.size, 0, none⟩), u5, u6, u7, u8, u9, u10, u11, u12, u13, u14, u15, u16, u17, u18, u19, u20, u21, u22, u23, u24, u25, u26, u27, u28, u29, u30, u31, u32, u33, u34, u35, u36, u37, u38, u39, u40, u41, u42, u43, u44, u45, u46, u47, u48, u49, u50, u51, u52, u53, u54, u55, u56, u57, u58, u59, u60, u61, u62, u63, u64, u65, u66, u67, u68], []⟩ →
      Aside0 (IsRr w1 wc (fun k => w1.heap.size ≤ k ∧ k < w2.heap.size) w2.heap.size g (rcC d.a0 d.a1 d.a2 d.a3 d.a4 A5 d.l5.length c5 A6 d.l6.length c6) A c bs d.t.p d.t.s d.t.b) →
      Aside0 (Kd.F kW wc (fun k => W.heap.size < k) A5 d.l5.length d.l5 ∧ d.l5.length ≤ c5) → Aside0 (Kd.F kV wc (fun k => W.heap.size < k) A6 d.l6.length d.l6 ∧ d.l6.length ≤ c6) →
      Aside0 (wc.heap[W.heap.size]? = some (.cells #[.int .i64 0, .int .u64 0, .int .u64 0, .int .i64 0, .int .i64 0, .slice none 0 0, .slice none 0 0] 28 (0, 0))) → K1 a wc := by
    intro a wc u1 u5 u6 u7 u8 u9 u10 u11 u12 u13 u14 u15 u16 u17 u18 u19 u20 u21 u22 u23 u24 u25 u26 u27 u28 u29 u30 u31 u32 u33 u34 u35 u36 u37 u38 u39 u40 u41 u42 u43 u44 u45 u46 u47 u48 u49 u50 u51 u52 u53 u54 u55 u56 u57 u58 u59 u60 u61 u62 u63 u64 u65 u66 u67 u68 A5 c5 A6 c6 ha HI HF5 HF6 HX
    subst ha
    clear hK0
    refine hK1 _ _ ?_
    clear hK1 s1 s2 s3 s4 s5 q2 HI6 HX6 HM
    clear hmm
    obtain ⟨q0, q1, q9⟩ := HI.out.cells
    have HOKC := Aside0.mk (rOk w1 wc _ w2.heap.size g _ A c bs d.t.p d.t.s d.t.b HI.out)
    rw [show (!d.t.b && !d.t.s) = d.t.ok from rfl] at HOKC
    have HB0 := Aside0.mk (below_step HB1.out HI.out.base)
    cases hok : d.t.ok with
    | false =>
      have HNO := Aside0.mk (show decOk bs = false by unfold decOk; rw [← HD.out, hok]; rfl)
      rw [hok] at HOKC
      clear hok
      go_wp2_with fail
      refine HOKC.out.mono ?_
      rintro e w6 ⟨rfl, hdr⟩
      have HXe := Aside0.mk (blk_below HX.out hdr.below)
      have HBe := Aside0.mk (below_step HB0.out hdr.below)
      clear hdr q0 q1 q9
      have e0 : w6.cell? ⟨W.heap.size, 0, none⟩ = some (.int .i64 0) := (blk_cell HXe.out 0).trans rfl
      have f0 : w6.frozen? ⟨W.heap.size, 0, none⟩ = false := blk_frozen HXe.out 0
      have e1 : w6.cell? ⟨W.heap.size, 1, none⟩ = some (.int .u64 0) := (blk_cell HXe.out 1).trans rfl
      have f1 : w6.frozen? ⟨W.heap.size, 1, none⟩ = false := blk_frozen HXe.out 1
      have e2 : w6.cell? ⟨W.heap.size, 2, none⟩ = some (.int .u64 0) := (blk_cell HXe.out 2).trans rfl
      have f2 : w6.frozen? ⟨W.heap.size, 2, none⟩ = false := blk_frozen HXe.out 2
      have e3 : w6.cell? ⟨W.heap.size, 3, none⟩ = some (.int .i64 0) := (blk_cell HXe.out 3).trans rfl
      have f3 : w6.frozen? ⟨W.heap.size, 3, none⟩ = false := blk_frozen HXe.out 3
      have e4 : w6.cell? ⟨W.heap.size, 4, none⟩ = some (.int .i64 0) := (blk_cell HXe.out 4).trans rfl
      have f4 : w6.frozen? ⟨W.heap.size, 4, none⟩ = false := blk_frozen HXe.out 4
      have e5 : w6.cell? ⟨W.heap.size, 5, none⟩ = some (.slice none 0 0) := (blk_cell HXe.out 5).trans rfl
      have f5 : w6.frozen? ⟨W.heap.size, 5, none⟩ = false := blk_frozen HXe.out 5
      have e6 : w6.cell? ⟨W.heap.size, 6, none⟩ = some (.slice none 0 0) := (blk_cell HXe.out 6).trans rfl
      have f6 : w6.frozen? ⟨W.heap.size, 6, none⟩ = false := blk_frozen HXe.out 6
      go_wp2_with fail
      obtain ⟨w9, hw9⟩ : ∃ w9, w9 = (((((((w6.setCell ⟨W.heap.size, 0, none⟩ (.int .i64 0)).setCell ⟨W.heap.size, 1, none⟩ (.int .u64 0)).setCell ⟨W.heap.size, 2, none⟩ (.int .u64 0)).setCell ⟨W.heap.size, 3, none⟩ (.int .i64 0)).setCell ⟨W.heap.size, 4, none⟩ (.int .i64 0)).setCell ⟨W.heap.size, 5, none⟩ (.slice none 0 0)).setCell ⟨W.heap.size, 6, none⟩ (.slice none 0 0)) := ⟨_, rfl⟩
      rw [← hw9]
      obtain ⟨hX9, hf9⟩ := box7 HXe.out hw9
      clear e0 e1 e2 e3 e4 e5 e6
      have e0 : w9.cell? ⟨W.heap.size, 0, none⟩ = some (.int .i64 0) := (blk_cell hX9 0).trans rfl
      have e1 : w9.cell? ⟨W.heap.size, 1, none⟩ = some (.int .u64 0) := (blk_cell hX9 1).trans rfl
      have e2 : w9.cell? ⟨W.heap.size, 2, none⟩ = some (.int .u64 0) := (blk_cell hX9 2).trans rfl
      have e3 : w9.cell? ⟨W.heap.size, 3, none⟩ = some (.int .i64 0) := (blk_cell hX9 3).trans rfl
      have e4 : w9.cell? ⟨W.heap.size, 4, none⟩ = some (.int .i64 0) := (blk_cell hX9 4).trans rfl
      have e5 : w9.cell? ⟨W.heap.size, 5, none⟩ = some (.slice none 0 0) := (blk_cell hX9 5).trans rfl
      have e6 : w9.cell? ⟨W.heap.size, 6, none⟩ = some (.slice none 0 0) := (blk_cell hX9 6).trans rfl
      refine bodyPost_ret (by simp [results, Try.results46, go_sem, e0, e1, e2, e3, e4, e5, e6]; try rfl) rfl ?_
      exact ⟨fun h => absurd h (by rw [HNO.out]; decide), fun _ => rfl, below9 HBe.out hf9⟩

    | true =>
      rw [hok] at HOKC
      have HOK1 := Aside0.mk hok
      clear hok
      have HS1 := Aside0.mk (show d.t.s = false by have h := HOK1.out; unfold RS.ok at h; cases hs : d.t.s; rfl; rw [hs] at h; simp at h)
      have HL := Aside0.mk (fun (W2 : World) (h : Drawn0 wc W2) => ScLeft _ _ g bs d.t.p d.t.s W2 (HI.out.below h.below).scan)
      have hple := HI.out.scan.place
      by_cases hlt : d.t.p < bs.length
      · have HNO := Aside0.mk (show decOk bs = false by unfold decOk; rw [← HD.out, HOK1.out, decide_eq_false (by omega)]; rfl)
        have hd0 : decide ((0 : Int) < (bs.length : Int) - (d.t.p : Int)) = true := decide_eq_true (by omega)
        have hltz : (d.t.p : Int) < (bs.length : Int) := by omega
        clear hple
        go_wp2_with (first
          | (go_at_call 81; refine HOKC.out.mono ?_; rintro e w5 ⟨rfl, hdr⟩; have HDR := Aside0.mk hdr; have q0' : w5.cell? ⟨w2.heap.size, 0, none⟩ = some (.pointer (some ⟨g, 0, none⟩)) := (hdr.below.cell (World.block_lt_of_cell? wc _ q0)).trans q0; clear hdr)
          | (go_at_call 59; refine (HL.out _ HDR.out).mono ?_; rintro e w6 ⟨rfl, hdr⟩; have hbd := below_step HDR.out.below hdr.below; have HXe := Aside0.mk (blk_below HX.out hbd); have HBe := Aside0.mk (below_step HB0.out hbd); clear hdr hbd
             have e0 : w6.cell? ⟨W.heap.size, 0, none⟩ = some (.int .i64 0) := (blk_cell HXe.out 0).trans rfl
             have f0 : w6.frozen? ⟨W.heap.size, 0, none⟩ = false := blk_frozen HXe.out 0
             have e1 : w6.cell? ⟨W.heap.size, 1, none⟩ = some (.int .u64 0) := (blk_cell HXe.out 1).trans rfl
             have f1 : w6.frozen? ⟨W.heap.size, 1, none⟩ = false := blk_frozen HXe.out 1
             have e2 : w6.cell? ⟨W.heap.size, 2, none⟩ = some (.int .u64 0) := (blk_cell HXe.out 2).trans rfl
             have f2 : w6.frozen? ⟨W.heap.size, 2, none⟩ = false := blk_frozen HXe.out 2
             have e3 : w6.cell? ⟨W.heap.size, 3, none⟩ = some (.int .i64 0) := (blk_cell HXe.out 3).trans rfl
             have f3 : w6.frozen? ⟨W.heap.size, 3, none⟩ = false := blk_frozen HXe.out 3
             have e4 : w6.cell? ⟨W.heap.size, 4, none⟩ = some (.int .i64 0) := (blk_cell HXe.out 4).trans rfl
             have f4 : w6.frozen? ⟨W.heap.size, 4, none⟩ = false := blk_frozen HXe.out 4
             have e5 : w6.cell? ⟨W.heap.size, 5, none⟩ = some (.slice none 0 0) := (blk_cell HXe.out 5).trans rfl
             have f5 : w6.frozen? ⟨W.heap.size, 5, none⟩ = false := blk_frozen HXe.out 5
             have e6 : w6.cell? ⟨W.heap.size, 6, none⟩ = some (.slice none 0 0) := (blk_cell HXe.out 6).trans rfl
             have f6 : w6.frozen? ⟨W.heap.size, 6, none⟩ = false := blk_frozen HXe.out 6))
        obtain ⟨w9, hw9⟩ : ∃ w9, w9 = (((((((w6.setCell ⟨W.heap.size, 0, none⟩ (.int .i64 0)).setCell ⟨W.heap.size, 1, none⟩ (.int .u64 0)).setCell ⟨W.heap.size, 2, none⟩ (.int .u64 0)).setCell ⟨W.heap.size, 3, none⟩ (.int .i64 0)).setCell ⟨W.heap.size, 4, none⟩ (.int .i64 0)).setCell ⟨W.heap.size, 5, none⟩ (.slice none 0 0)).setCell ⟨W.heap.size, 6, none⟩ (.slice none 0 0)) := ⟨_, rfl⟩
        rw [← hw9]
        obtain ⟨hX9, hf9⟩ := box7 HXe.out hw9
        clear e0 e1 e2 e3 e4 e5 e6
        have e0 : w9.cell? ⟨W.heap.size, 0, none⟩ = some (.int .i64 0) := (blk_cell hX9 0).trans rfl
        have e1 : w9.cell? ⟨W.heap.size, 1, none⟩ = some (.int .u64 0) := (blk_cell hX9 1).trans rfl
        have e2 : w9.cell? ⟨W.heap.size, 2, none⟩ = some (.int .u64 0) := (blk_cell hX9 2).trans rfl
        have e3 : w9.cell? ⟨W.heap.size, 3, none⟩ = some (.int .i64 0) := (blk_cell hX9 3).trans rfl
        have e4 : w9.cell? ⟨W.heap.size, 4, none⟩ = some (.int .i64 0) := (blk_cell hX9 4).trans rfl
        have e5 : w9.cell? ⟨W.heap.size, 5, none⟩ = some (.slice none 0 0) := (blk_cell hX9 5).trans rfl
        have e6 : w9.cell? ⟨W.heap.size, 6, none⟩ = some (.slice none 0 0) := (blk_cell hX9 6).trans rfl
        refine bodyPost_ret (by simp [results, Try.results46, go_sem, e0, e1, e2, e3, e4, e5, e6]; try rfl) rfl ?_
        exact ⟨fun h => absurd h (by rw [HNO.out]; decide), fun _ => rfl, below9 HBe.out hf9⟩
      · have HEQ := Aside0.mk (show bs.length ≤ d.t.p by omega)
        have hltz : ¬ (d.t.p : Int) < (bs.length : Int) := by omega
        have HC := Aside0.mk (fun (W2 : World) (h : Below wc.heap.size wc W2) => recCheck d.a0 d.a1 d.a2 d.a3 d.a4 d.l5 d.l6 A5 c5 A6 c6 W2 (Kd.F_now (Kd.F_below HF5.out.1 h)) HF5.out.2 (Kd.F_now (Kd.F_below HF6.out.1 h)))
        clear hple
        cases hrk : recOk ⟨d.a0, d.a1, d.a2, d.a3, d.a4, d.l5, d.l6⟩ with
        | false =>
          rw [hrk] at HC
          have HNO := Aside0.mk (show decOk bs = false by unfold decOk; rw [← HD.out, HOK1.out, decide_eq_true HEQ.out, show recOk d.rec_ = false from hrk]; rfl)
          clear hrk
          go_wp2_with (first
            | (go_at_call 81; refine HOKC.out.mono ?_; rintro e w5 ⟨rfl, hdr⟩; have HDR := Aside0.mk hdr; have q0' : w5.cell? ⟨w2.heap.size, 0, none⟩ = some (.pointer (some ⟨g, 0, none⟩)) := (hdr.below.cell (World.block_lt_of_cell? wc _ q0)).trans q0; clear hdr)
            | (go_at_call 59; refine (HL.out _ HDR.out).mono ?_; rintro e w6 ⟨rfl, hdr⟩; have hbd := below_step HDR.out.below hdr.below; have hI6 := HI.out.below hbd; have HBD := Aside0.mk hbd
               have r0 : w6.cell? ⟨w2.heap.size, 2, none⟩ = some (.int .i64 d.a0) := (blk_cell hI6.1 2).trans rfl
               have r1 : w6.cell? ⟨w2.heap.size, 3, none⟩ = some (.int .u64 d.a1) := (blk_cell hI6.1 3).trans rfl
               have r2 : w6.cell? ⟨w2.heap.size, 4, none⟩ = some (.int .u64 d.a2) := (blk_cell hI6.1 4).trans rfl
               have r3 : w6.cell? ⟨w2.heap.size, 5, none⟩ = some (.int .i64 d.a3) := (blk_cell hI6.1 5).trans rfl
               have r4 : w6.cell? ⟨w2.heap.size, 6, none⟩ = some (.int .i64 d.a4) := (blk_cell hI6.1 6).trans rfl
               have r5 : w6.cell? ⟨w2.heap.size, 7, none⟩ = some (.slice A5 d.l5.length c5) := (blk_cell hI6.1 7).trans rfl
               have r6 : w6.cell? ⟨w2.heap.size, 8, none⟩ = some (.slice A6 d.l6.length c6) := (blk_cell hI6.1 8).trans rfl
               clear hdr hbd hI6)
            | (go_at_call 50; refine (HC.out _ HBD.out).mono ?_; rintro e w7 ⟨rfl, hdr⟩; have hbd := below_step HBD.out hdr; have HXe := Aside0.mk (blk_below HX.out hbd); have HBe := Aside0.mk (below_step HB0.out hbd); clear hdr hbd
               have e0 : w7.cell? ⟨W.heap.size, 0, none⟩ = some (.int .i64 0) := (blk_cell HXe.out 0).trans rfl
               have f0 : w7.frozen? ⟨W.heap.size, 0, none⟩ = false := blk_frozen HXe.out 0
               have e1 : w7.cell? ⟨W.heap.size, 1, none⟩ = some (.int .u64 0) := (blk_cell HXe.out 1).trans rfl
               have f1 : w7.frozen? ⟨W.heap.size, 1, none⟩ = false := blk_frozen HXe.out 1
               have e2 : w7.cell? ⟨W.heap.size, 2, none⟩ = some (.int .u64 0) := (blk_cell HXe.out 2).trans rfl
               have f2 : w7.frozen? ⟨W.heap.size, 2, none⟩ = false := blk_frozen HXe.out 2
               have e3 : w7.cell? ⟨W.heap.size, 3, none⟩ = some (.int .i64 0) := (blk_cell HXe.out 3).trans rfl
               have f3 : w7.frozen? ⟨W.heap.size, 3, none⟩ = false := blk_frozen HXe.out 3
               have e4 : w7.cell? ⟨W.heap.size, 4, none⟩ = some (.int .i64 0) := (blk_cell HXe.out 4).trans rfl
               have f4 : w7.frozen? ⟨W.heap.size, 4, none⟩ = false := blk_frozen HXe.out 4
               have e5 : w7.cell? ⟨W.heap.size, 5, none⟩ = some (.slice none 0 0) := (blk_cell HXe.out 5).trans rfl
               have f5 : w7.frozen? ⟨W.heap.size, 5, none⟩ = false := blk_frozen HXe.out 5
               have e6 : w7.cell? ⟨W.heap.size, 6, none⟩ = some (.slice none 0 0) := (blk_cell HXe.out 6).trans rfl
               have f6 : w7.frozen? ⟨W.heap.size, 6, none⟩ = false := blk_frozen HXe.out 6))
          obtain ⟨w9, hw9⟩ : ∃ w9, w9 = (((((((w7.setCell ⟨W.heap.size, 0, none⟩ (.int .i64 0)).setCell ⟨W.heap.size, 1, none⟩ (.int .u64 0)).setCell ⟨W.heap.size, 2, none⟩ (.int .u64 0)).setCell ⟨W.heap.size, 3, none⟩ (.int .i64 0)).setCell ⟨W.heap.size, 4, none⟩ (.int .i64 0)).setCell ⟨W.heap.size, 5, none⟩ (.slice none 0 0)).setCell ⟨W.heap.size, 6, none⟩ (.slice none 0 0)) := ⟨_, rfl⟩
          rw [← hw9]
          obtain ⟨hX9, hf9⟩ := box7 HXe.out hw9
          clear e0 e1 e2 e3 e4 e5 e6
          have e0 : w9.cell? ⟨W.heap.size, 0, none⟩ = some (.int .i64 0) := (blk_cell hX9 0).trans rfl
          have e1 : w9.cell? ⟨W.heap.size, 1, none⟩ = some (.int .u64 0) := (blk_cell hX9 1).trans rfl
          have e2 : w9.cell? ⟨W.heap.size, 2, none⟩ = some (.int .u64 0) := (blk_cell hX9 2).trans rfl
          have e3 : w9.cell? ⟨W.heap.size, 3, none⟩ = some (.int .i64 0) := (blk_cell hX9 3).trans rfl
          have e4 : w9.cell? ⟨W.heap.size, 4, none⟩ = some (.int .i64 0) := (blk_cell hX9 4).trans rfl
          have e5 : w9.cell? ⟨W.heap.size, 5, none⟩ = some (.slice none 0 0) := (blk_cell hX9 5).trans rfl
          have e6 : w9.cell? ⟨W.heap.size, 6, none⟩ = some (.slice none 0 0) := (blk_cell hX9 6).trans rfl
          refine bodyPost_ret (by simp [results, Try.results46, go_sem, e0, e1, e2, e3, e4, e5, e6]; try rfl) rfl ?_
          exact ⟨fun h => absurd h (by rw [HNO.out]; decide), fun _ => rfl, below9 HBe.out hf9⟩
        | true =>
          rw [hrk] at HC
          have HYES := Aside0.mk (show decOk bs = true by unfold decOk; rw [← HD.out, HOK1.out, decide_eq_true HEQ.out, show recOk d.rec_ = true from hrk]; rfl)
          clear hrk
          go_wp2_with (first
            | (go_at_call 81; refine HOKC.out.mono ?_; rintro e w5 ⟨rfl, hdr⟩; have HDR := Aside0.mk hdr; have q0' : w5.cell? ⟨w2.heap.size, 0, none⟩ = some (.pointer (some ⟨g, 0, none⟩)) := (hdr.below.cell (World.block_lt_of_cell? wc _ q0)).trans q0; clear hdr)
            | (go_at_call 59; refine (HL.out _ HDR.out).mono ?_; rintro e w6 ⟨rfl, hdr⟩; have hbd := below_step HDR.out.below hdr.below; have hI6 := HI.out.below hbd; have HBD := Aside0.mk hbd
               have r0 : w6.cell? ⟨w2.heap.size, 2, none⟩ = some (.int .i64 d.a0) := (blk_cell hI6.1 2).trans rfl
               have r1 : w6.cell? ⟨w2.heap.size, 3, none⟩ = some (.int .u64 d.a1) := (blk_cell hI6.1 3).trans rfl
               have r2 : w6.cell? ⟨w2.heap.size, 4, none⟩ = some (.int .u64 d.a2) := (blk_cell hI6.1 4).trans rfl
               have r3 : w6.cell? ⟨w2.heap.size, 5, none⟩ = some (.int .i64 d.a3) := (blk_cell hI6.1 5).trans rfl
               have r4 : w6.cell? ⟨w2.heap.size, 6, none⟩ = some (.int .i64 d.a4) := (blk_cell hI6.1 6).trans rfl
               have r5 : w6.cell? ⟨w2.heap.size, 7, none⟩ = some (.slice A5 d.l5.length c5) := (blk_cell hI6.1 7).trans rfl
               have r6 : w6.cell? ⟨w2.heap.size, 8, none⟩ = some (.slice A6 d.l6.length c6) := (blk_cell hI6.1 8).trans rfl
               clear hdr hbd hI6)
            | (go_at_call 50; refine (HC.out _ HBD.out).mono ?_; rintro e w7 ⟨rfl, hdr⟩; have hbd := below_step HBD.out hdr; have HXe := Aside0.mk (blk_below HX.out hbd); have HBe := Aside0.mk (below_step HB0.out hbd); have hI7 := HI.out.below hbd; clear r0 r1 r2 r3 r4 r5 r6; have HB7 := Aside0.mk hbd
               have r0 : w7.cell? ⟨w2.heap.size, 2, none⟩ = some (.int .i64 d.a0) := (blk_cell hI7.1 2).trans rfl
               have r1 : w7.cell? ⟨w2.heap.size, 3, none⟩ = some (.int .u64 d.a1) := (blk_cell hI7.1 3).trans rfl
               have r2 : w7.cell? ⟨w2.heap.size, 4, none⟩ = some (.int .u64 d.a2) := (blk_cell hI7.1 4).trans rfl
               have r3 : w7.cell? ⟨w2.heap.size, 5, none⟩ = some (.int .i64 d.a3) := (blk_cell hI7.1 5).trans rfl
               have r4 : w7.cell? ⟨w2.heap.size, 6, none⟩ = some (.int .i64 d.a4) := (blk_cell hI7.1 6).trans rfl
               have r5 : w7.cell? ⟨w2.heap.size, 7, none⟩ = some (.slice A5 d.l5.length c5) := (blk_cell hI7.1 7).trans rfl
               have r6 : w7.cell? ⟨w2.heap.size, 8, none⟩ = some (.slice A6 d.l6.length c6) := (blk_cell hI7.1 8).trans rfl
               clear hdr hbd hI7
               have e0 : w7.cell? ⟨W.heap.size, 0, none⟩ = some (.int .i64 0) := (blk_cell HXe.out 0).trans rfl
               have f0 : w7.frozen? ⟨W.heap.size, 0, none⟩ = false := blk_frozen HXe.out 0
               have e1 : w7.cell? ⟨W.heap.size, 1, none⟩ = some (.int .u64 0) := (blk_cell HXe.out 1).trans rfl
               have f1 : w7.frozen? ⟨W.heap.size, 1, none⟩ = false := blk_frozen HXe.out 1
               have e2 : w7.cell? ⟨W.heap.size, 2, none⟩ = some (.int .u64 0) := (blk_cell HXe.out 2).trans rfl
               have f2 : w7.frozen? ⟨W.heap.size, 2, none⟩ = false := blk_frozen HXe.out 2
               have e3 : w7.cell? ⟨W.heap.size, 3, none⟩ = some (.int .i64 0) := (blk_cell HXe.out 3).trans rfl
               have f3 : w7.frozen? ⟨W.heap.size, 3, none⟩ = false := blk_frozen HXe.out 3
               have e4 : w7.cell? ⟨W.heap.size, 4, none⟩ = some (.int .i64 0) := (blk_cell HXe.out 4).trans rfl
               have f4 : w7.frozen? ⟨W.heap.size, 4, none⟩ = false := blk_frozen HXe.out 4
               have e5 : w7.cell? ⟨W.heap.size, 5, none⟩ = some (.slice none 0 0) := (blk_cell HXe.out 5).trans rfl
               have f5 : w7.frozen? ⟨W.heap.size, 5, none⟩ = false := blk_frozen HXe.out 5
               have e6 : w7.cell? ⟨W.heap.size, 6, none⟩ = some (.slice none 0 0) := (blk_cell HXe.out 6).trans rfl
               have f6 : w7.frozen? ⟨W.heap.size, 6, none⟩ = false := blk_frozen HXe.out 6))
          obtain ⟨w9, hw9⟩ : ∃ w9, w9 = (((((((w7.setCell ⟨W.heap.size, 0, none⟩ (.int .i64 d.a0)).setCell ⟨W.heap.size, 1, none⟩ (.int .u64 d.a1)).setCell ⟨W.heap.size, 2, none⟩ (.int .u64 d.a2)).setCell ⟨W.heap.size, 3, none⟩ (.int .i64 d.a3)).setCell ⟨W.heap.size, 4, none⟩ (.int .i64 d.a4)).setCell ⟨W.heap.size, 5, none⟩ (.slice A5 d.l5.length c5)).setCell ⟨W.heap.size, 6, none⟩ (.slice A6 d.l6.length c6)) := ⟨_, rfl⟩
          rw [← hw9]
          obtain ⟨hX9, hf9⟩ := box7 HXe.out hw9
          clear e0 e1 e2 e3 e4 e5 e6
          have e0 : w9.cell? ⟨W.heap.size, 0, none⟩ = some (.int .i64 d.a0) := (blk_cell hX9 0).trans rfl
          have e1 : w9.cell? ⟨W.heap.size, 1, none⟩ = some (.int .u64 d.a1) := (blk_cell hX9 1).trans rfl
          have e2 : w9.cell? ⟨W.heap.size, 2, none⟩ = some (.int .u64 d.a2) := (blk_cell hX9 2).trans rfl
          have e3 : w9.cell? ⟨W.heap.size, 3, none⟩ = some (.int .i64 d.a3) := (blk_cell hX9 3).trans rfl
          have e4 : w9.cell? ⟨W.heap.size, 4, none⟩ = some (.int .i64 d.a4) := (blk_cell hX9 4).trans rfl
          have e5 : w9.cell? ⟨W.heap.size, 5, none⟩ = some (.slice A5 d.l5.length c5) := (blk_cell hX9 5).trans rfl
          have e6 : w9.cell? ⟨W.heap.size, 6, none⟩ = some (.slice A6 d.l6.length c6) := (blk_cell hX9 6).trans rfl
          refine bodyPost_ret (by simp [results, Try.results46, go_sem, e0, e1, e2, e3, e4, e5, e6]; try rfl) rfl ?_
          have hdd := HD.out
          rw [← hdd]
          exact ⟨fun _ => ⟨A5, c5, A6, c6, rfl, ⟨Kd.F_step (Kd.F_below HF5.out.1 HB7.out) (fun k hk hlt => hf9.block hlt (fun e => by omega)), HF5.out.2⟩, ⟨Kd.F_step (Kd.F_below HF6.out.1 HB7.out) (fun k hk hlt => hf9.block hlt (fun e => by omega)), HF6.out.2⟩⟩, fun h => absurd h (by rw [HYES.out]; decide), below9 HBe.out hf9⟩
  clear hK1
  by_cases k1 : k = 1
  · subst k1
    have hdd := HDD.out
    rw [if_pos rfl] at hdd
    subst hdd
    have hlk := map_look (P := Try.prog) m5 w5.heap.size _ _ 1 0 (.func (.func 76) #[.pointer (some ⟨w2.heap.size, 0, none⟩)] #[]) Try.underlying114 Try.underlying3 HM.out (by first | rfl | simp [Instr.findNow, Instr.sameNow])
    have eg : ∀ args w, (callFunc 76 args).run Try.prog w = .ok (.enter 76 args) w := enters_of Try.func76 (by kernel_rfl) rfl
    have hnf := neq_func (P := Try.prog) m5 1 (.func 76) #[.pointer (some ⟨w2.heap.size, 0, none⟩)] #[] Try.underlying1
    have HCM := Aside0.mk (rCommit 1 w1 m5 _ w2.heap.size g A c bs t1 HI6.out HR1.out hc hl)
    go_wp2_with (go_at_fn 76; refine HCM.out.mono ?_; rintro e w11 ⟨Ax, cx, rfl, hN, hi, hf⟩; have HNx := Aside0.mk hN; have HIx := Aside0.mk hi; have HFx := Aside0.mk hf; clear hN hi hf)
    exact tail _ _ _ _ _ _ _ _ _ _ _ _ _ _ _ _ _ _ _ _ _ _ _ _ _ _ _ _ _ _ _ _ _ _ _ _ _ _ _ _ _ _ _ _ _ _ _ _ _ _ _ _ _ _ _ _ _ _ _ _ _ _ _ _ _ _ _ Ax cx none 0 rfl HIx ⟨⟨Kd.F_mono (Kd.N_F HNx.out) (fun k hk => by have := HSZ.out; omega), (Kd.N_reads' HNx.out).2.1⟩⟩ ⟨⟨Kd.F_nil _ _ _, Nat.zero_le _⟩⟩ ⟨HFx.out.blk HX6.out (fun e => by rcases e with e | e; exact HG.out e; exact HRX.out e)⟩
  by_cases k2 : k = 2
  · subst k2
    have hdd := HDD.out
    rw [if_neg (by decide)] at hdd; rw [if_pos rfl] at hdd
    subst hdd
    have hlk := map_look (P := Try.prog) m5 w5.heap.size _ _ 2 1 (.func (.func 77) #[.pointer (some ⟨w2.heap.size, 0, none⟩)] #[]) Try.underlying114 Try.underlying3 HM.out (by first | rfl | simp [Instr.findNow, Instr.sameNow])
    have eg : ∀ args w, (callFunc 77 args).run Try.prog w = .ok (.enter 77 args) w := enters_of Try.func77 (by kernel_rfl) rfl
    have hnf := neq_func (P := Try.prog) m5 1 (.func 77) #[.pointer (some ⟨w2.heap.size, 0, none⟩)] #[] Try.underlying1
    have HCM := Aside0.mk (rCreate 2 w1 m5 _ w2.heap.size g A c bs t1 HI6.out)
    go_wp2_with (go_at_fn 77; refine HCM.out.mono ?_; rintro e w11 ⟨rfl, hi, hf⟩; have HIx := Aside0.mk hi; have HFx := Aside0.mk hf; clear hi hf)
    exact tail _ _ _ _ _ _ _ _ _ _ _ _ _ _ _ _ _ _ _ _ _ _ _ _ _ _ _ _ _ _ _ _ _ _ _ _ _ _ _ _ _ _ _ _ _ _ _ _ _ _ _ _ _ _ _ _ _ _ _ _ _ _ _ _ _ _ _ none 0 none 0 rfl ⟨HIx.out⟩ ⟨⟨Kd.F_nil _ _ _, Nat.zero_le _⟩⟩ ⟨⟨Kd.F_nil _ _ _, Nat.zero_le _⟩⟩ ⟨HFx.out.blk HX6.out (fun e => by rcases e with e | e; exact HG.out e; exact HRX.out e)⟩
  by_cases k3 : k = 3
  · subst k3
    have hdd := HDD.out
    rw [if_neg (by decide)] at hdd; rw [if_neg (by decide)] at hdd; rw [if_pos rfl] at hdd
    subst hdd
    have hlk := map_look (P := Try.prog) m5 w5.heap.size _ _ 3 2 (.func (.func 78) #[.pointer (some ⟨w2.heap.size, 0, none⟩)] #[]) Try.underlying114 Try.underlying3 HM.out (by first | rfl | simp [Instr.findNow, Instr.sameNow])
    have eg : ∀ args w, (callFunc 78 args).run Try.prog w = .ok (.enter 78 args) w := enters_of Try.func78 (by kernel_rfl) rfl
    have hnf := neq_func (P := Try.prog) m5 1 (.func 78) #[.pointer (some ⟨w2.heap.size, 0, none⟩)] #[] Try.underlying1
    have HCM := Aside0.mk (rDrop w1 m5 _ w2.heap.size g (rcZ 3) A c bs t1.p t1.s t1.b HI6.out 0 rfl)
    go_wp2_with (go_at_fn 78; refine HCM.out.mono ?_; rintro e w11 ⟨rfl, hi, hf⟩; have HIx := Aside0.mk hi; have HFx := Aside0.mk hf; clear hi hf)
    exact tail _ _ _ _ _ _ _ _ _ _ _ _ _ _ _ _ _ _ _ _ _ _ _ _ _ _ _ _ _ _ _ _ _ _ _ _ _ _ _ _ _ _ _ _ _ _ _ _ _ _ _ _ _ _ _ _ _ _ _ _ _ _ _ _ _ _ _ none 0 none 0 rfl ⟨HIx.out⟩ ⟨⟨Kd.F_nil _ _ _, Nat.zero_le _⟩⟩ ⟨⟨Kd.F_nil _ _ _, Nat.zero_le _⟩⟩ ⟨HFx.out.blk HX6.out (fun e => by rcases e with e | e; exact HG.out e; exact HRX.out e)⟩
  by_cases k4 : k = 4
  · subst k4
    have hdd := HDD.out
    rw [if_neg (by decide)] at hdd; rw [if_neg (by decide)] at hdd; rw [if_neg (by decide)] at hdd; rw [if_pos rfl] at hdd
    subst hdd
    have hlk := map_look (P := Try.prog) m5 w5.heap.size _ _ 4 3 (.func (.func 79) #[.pointer (some ⟨w2.heap.size, 0, none⟩)] #[]) Try.underlying114 Try.underlying3 HM.out (by first | rfl | simp [Instr.findNow, Instr.sameNow])
    have eg : ∀ args w, (callFunc 79 args).run Try.prog w = .ok (.enter 79 args) w := enters_of Try.func79 (by kernel_rfl) rfl
    have hnf := neq_func (P := Try.prog) m5 1 (.func 79) #[.pointer (some ⟨w2.heap.size, 0, none⟩)] #[] Try.underlying1
    have HCM := Aside0.mk (rTrain 4 w1 m5 _ w2.heap.size g A c bs t1 HI6.out HR1.out hc hl)
    go_wp2_with (go_at_fn 79; refine HCM.out.mono ?_; rintro e w11 ⟨Ax, cx, rfl, hN, hi, hf⟩; have HNx := Aside0.mk hN; have HIx := Aside0.mk hi; have HFx := Aside0.mk hf; clear hN hi hf)
    exact tail _ _ _ _ _ _ _ _ _ _ _ _ _ _ _ _ _ _ _ _ _ _ _ _ _ _ _ _ _ _ _ _ _ _ _ _ _ _ _ _ _ _ _ _ _ _ _ _ _ _ _ _ _ _ _ _ _ _ _ _ _ _ _ _ _ _ _ none 0 Ax cx rfl HIx ⟨⟨Kd.F_nil _ _ _, Nat.zero_le _⟩⟩ ⟨⟨Kd.F_mono (Kd.N_F HNx.out) (fun k hk => by have := HSZ.out; omega), (Kd.N_reads' HNx.out).2.1⟩⟩ ⟨HFx.out.blk HX6.out (fun e => by rcases e with e | e; exact HG.out e; exact HRX.out e)⟩
  by_cases k5 : k = 5
  · subst k5
    have hdd := HDD.out
    rw [if_neg (by decide)] at hdd; rw [if_neg (by decide)] at hdd; rw [if_neg (by decide)] at hdd; rw [if_neg (by decide)] at hdd; rw [if_pos rfl] at hdd
    subst hdd
    have hlk := map_look (P := Try.prog) m5 w5.heap.size _ _ 5 4 (.func (.func 80) #[.pointer (some ⟨w2.heap.size, 0, none⟩)] #[]) Try.underlying114 Try.underlying3 HM.out (by first | rfl | simp [Instr.findNow, Instr.sameNow])
    have eg : ∀ args w, (callFunc 80 args).run Try.prog w = .ok (.enter 80 args) w := enters_of Try.func80 (by kernel_rfl) rfl
    have hnf := neq_func (P := Try.prog) m5 1 (.func 80) #[.pointer (some ⟨w2.heap.size, 0, none⟩)] #[] Try.underlying1
    have HCM := Aside0.mk (rVacuum w1 m5 _ w2.heap.size g (rcZ 5) A c bs t1.p t1.s t1.b HI6.out 0 rfl)
    go_wp2_with (go_at_fn 80; refine HCM.out.mono ?_; rintro e w11 ⟨rfl, hi, hf⟩; have HIx := Aside0.mk hi; have HFx := Aside0.mk hf; clear hi hf)
    exact tail _ _ _ _ _ _ _ _ _ _ _ _ _ _ _ _ _ _ _ _ _ _ _ _ _ _ _ _ _ _ _ _ _ _ _ _ _ _ _ _ _ _ _ _ _ _ _ _ _ _ _ _ _ _ _ _ _ _ _ _ _ _ _ _ _ _ _ none 0 none 0 rfl ⟨HIx.out⟩ ⟨⟨Kd.F_nil _ _ _, Nat.zero_le _⟩⟩ ⟨⟨Kd.F_nil _ _ _, Nat.zero_le _⟩⟩ ⟨HFx.out.blk HX6.out (fun e => by rcases e with e | e; exact HG.out e; exact HRX.out e)⟩
  have hdd := HDD.out
  rw [if_neg k1, if_neg k2, if_neg k3, if_neg k4, if_neg k5] at hdd
  subst hdd
  have hlk := map_none (P := Try.prog) m5 w5.heap.size _ _ k .nilFunc Try.underlying114 Try.underlying3 (by kernel_rfl) HM.out (by simp [Instr.findNow, Instr.sameNow, beq_eq_false_iff_ne.2 k1, beq_eq_false_iff_ne.2 k2, beq_eq_false_iff_ne.2 k3, beq_eq_false_iff_ne.2 k4, beq_eq_false_iff_ne.2 k5])
  have hnf := neq_nilFunc (P := Try.prog) m5 1 Try.underlying1
  go_wp2_with fail
  exact tail _ _ _ _ _ _ _ _ _ _ _ _ _ _ _ _ _ _ _ _ _ _ _ _ _ _ _ _ _ _ _ _ _ _ _ _ _ _ _ _ _ _ _ _ _ _ _ _ _ _ _ _ _ _ _ _ _ _ _ _ _ _ _ _ _ _ _ none 0 none 0 rfl ⟨HI6.out⟩ ⟨⟨Kd.F_nil _ _ _, Nat.zero_le _⟩⟩ ⟨⟨Kd.F_nil _ _ _, Nat.zero_le _⟩⟩ ⟨HX6.out⟩
end

section
open Go.Shelf Go.RowKit Go.Proofs.YtngjaaldidmgjaaW.PrintWords Go.Proofs.YtngjaaldidmgjaaW.PrintLast Go.Proofs.YtngjaaldidmgjaaW.PrintMore
set_option linter.unusedVariables false
set_option linter.unusedSimpArgs false

/-- A record's bytes; bytes of records: each behind its length. -/
def recBs (r : Rc) : List Int := recB r.f0 r.f1 r.f2 r.f3 r.f4 r.f5 r.f6
end

section
open Go.Shelf Go.RowKit Go.Proofs.YtngjaaldidmgjaaW.PrintWords Go.Proofs.YtngjaaldidmgjaaW.PrintLast Go.Proofs.YtngjaaldidmgjaaW.PrintMore
set_option linter.unusedVariables false
set_option linter.unusedSimpArgs false
end

end Go.Proofs.Ytngjaaldidmgjaa.G
