/- The document's reader of a record: what it takes from bytes; contract of num. The document's reader of a record: contract of vec. The document's reader of a record against the program's: plain. Contract of quiverref24.Read. quiverlaw24.RecordReads answers true. -/
import Derived.Test.YtngjaaldidmgjaaMJ
import Derived.Deep.RegionHeld3
namespace Go.Proofs.Ytngjaaldidmgjaa.G

section
open Go.Shelf Go.RowKit Go.Proofs.YtngjaaldidmgjaaW.PrintWords Go.Proofs.YtngjaaldidmgjaaW.PrintLast Go.Proofs.YtngjaaldidmgjaaW.PrintMore
set_option linter.unusedVariables false
set_option linter.unusedSimpArgs false

theorem ref_num_l0 (l : List Int) (hl : l.length ≤ 8) (hby : ∀ x ∈ l, 0 ≤ x ∧ x ≤ 255) : ∀ (d i k : Nat), i + d = l.length → d < k → P.quiverref07_number.l0 k l (num (l.take i)) (i : Int) = some (num l)
  | 0, i, k + 1, h, _ => by
    rw [P.quiverref07_number.l0, if_neg (by omega), List.take_of_length_le (by omega)]
  | d + 1, i, k + 1, h, hk => by
    rw [P.quiverref07_number.l0, if_pos (by omega), if_pos (by omega), num_step l i hl hby (by omega), w64 (by omega) (by omega), show ((i : Int) + 1) = ((i + 1 : Nat) : Int) by omega]
    exact ref_num_l0 l hl hby d (i + 1) k (by omega) (by omega)
theorem ref_num_is (l : List Int) (k : Nat) (hk : 9 ≤ k) (hl : l.length ≤ 8) (hby : ∀ x ∈ l, 0 ≤ x ∧ x ≤ 255) : P.quiverref07_number.f k l = some (num l) :=
  ref_num_l0 l hl hby l.length 0 k (by omega) (by omega)
theorem wrap32_signed (y : Int) (h0 : 0 ≤ y) (h1 : y < 4294967296) : wrap32 (y % 4294967296) = signed 4 y := by
  unfold signed wrap32
  rw [if_pos (by decide), show (256 : Int) ^ (4 : Int).toNat = 4294967296 by decide]
  split <;> omega
theorem w3 {a b : Int} (ha : 0 ≤ a ∧ a ≤ 10000) (hb : 0 ≤ b ∧ b ≤ 10000) : wrap64 (wrap64 a + wrap64 b) = a + b := by
  rw [w64 (i := a) (by omega) (by omega), w64 (i := b) (by omega) (by omega), w64 (by omega) (by omega)]
/-- What the document takes. -/
def tv (bs : List Int) (pl : Nat) : List Int × Int × Int := tvg bs pl right
theorem ref_vec_l0 (l : List Int) (hl : l.length ≤ 1000) (hby : ∀ x ∈ l, 0 ≤ x ∧ x ≤ 255) (at_ n : Nat) (ha : at_ ≤ 100) (hn : n ≤ 4) (hin : at_ + 1 + 4 * n ≤ l.length) : ∀ (d i k : Nat) (acc : List Int), i + d = n → acc.length = i → d + 12 ≤ k →
    P.quiverref07_TakeVec.l0 k l (at_ : Int) (n : Int) acc (i : Int) = some (if right (acc ++ dec4 d (l.drop (at_ + 1 + 4 * i))) = true then (acc ++ dec4 d (l.drop (at_ + 1 + 4 * i)), ((at_ + 1 + 4 * n : Nat) : Int), 0) else ([], 0, 172))
  | 0, i, k + 1, acc, h, hacc, hk => by
    rw [P.quiverref07_TakeVec.l0, if_neg (by omega), right_is k acc (by omega) (by omega), Option.bind_some, dec4, List.append_nil]
    rw [show wrap64 (wrap64 ((at_ : Int) + 1) + wrap64 (4 * (n : Int))) = ((at_ + 1 + 4 * n : Nat) : Int) by rw [w3 (by omega) (by omega)]; omega]
    split <;> rfl
  | d + 1, i, k + 1, acc, h, hacc, hk => by
    have e1 : wrap64 (wrap64 ((at_ : Int) + 1) + wrap64 (4 * (i : Int))) = ((at_ + 1 + 4 * i : Nat) : Int) := by rw [w3 (by omega) (by omega)]; omega
    have e2 : wrap64 (wrap64 ((at_ : Int) + 5) + wrap64 (4 * (i : Int))) = ((at_ + 1 + 4 * i + 4 : Nat) : Int) := by rw [w3 (by omega) (by omega)]; omega
    have e3 : (l.take (at_ + 1 + 4 * i + 4)).drop (at_ + 1 + 4 * i) = (l.drop (at_ + 1 + 4 * i)).take 4 := by rw [List.drop_take, show at_ + 1 + 4 * i + 4 - (at_ + 1 + 4 * i) = 4 by omega]
    have hb4 : ∀ x ∈ (l.drop (at_ + 1 + 4 * i)).take 4, 0 ≤ x ∧ x ≤ 255 := fun x hx => hby x (List.mem_of_mem_drop (List.mem_of_mem_take hx))
    have hl4 : ((l.drop (at_ + 1 + 4 * i)).take 4).length ≤ 4 := by rw [List.length_take]; omega
    have hr := num_range _ hb4
    have hr2 := pow_le256 hl4
    rw [show (256 : Int) ^ 4 = 4294967296 by decide] at hr2
    rw [P.quiverref07_TakeVec.l0, if_pos (by omega), e1, e2, if_pos (by omega), if_pos (by omega), if_pos (by omega), Int.toNat_natCast, Int.toNat_natCast, e3, ref_num_is _ k (by omega) (by omega) hb4, Option.bind_some, if_pos (by omega),
      w64 (by omega) (by omega), show ((i : Int) + 1) = ((i + 1 : Nat) : Int) by omega, wrap32_signed _ hr.1 (by omega), ref_vec_l0 l hl hby at_ n ha hn hin d (i + 1) k _ (by omega) (by rw [List.length_append, hacc]; rfl) (by omega), dec4, List.drop_drop, List.append_assoc, List.singleton_append, show at_ + 1 + 4 * i + 4 = at_ + 1 + 4 * (i + 1) by omega]
theorem ref_vec_is (l : List Int) (hl : l.length ≤ 1000) (hby : ∀ x ∈ l, 0 ≤ x ∧ x ≤ 255) (at_ : Nat) (ha : at_ ≤ 100) (k : Nat) (hk : 20 ≤ k) : P.quiverref07_TakeVec.f k l (at_ : Int) = some (tv l at_) := by
  unfold P.quiverref07_TakeVec.f tv tvg
  by_cases h1 : l.length ≤ at_
  · rw [if_pos (by omega), if_pos h1]
  · have hb : 0 ≤ l.getD at_ 0 ∧ l.getD at_ 0 ≤ 255 := by rw [getD_of_lt l at_ 0 (by omega)]; exact hby _ (List.getElem_mem _)
    obtain ⟨k, rfl⟩ : ∃ q, k = q + 1 := ⟨k - 1, by omega⟩
    rw [if_neg (by omega), if_neg h1, if_pos (by omega), if_pos (by omega), rd_nat]
    obtain ⟨n, hn⟩ : ∃ n : Nat, l.getD at_ 0 = (n : Int) := ⟨(l.getD at_ 0).toNat, by omega⟩
    rw [hn] at hb ⊢
    rw [w64 (by omega) (by omega), Int.toNat_natCast]
    by_cases h2 : (n : Int) < 1
    · rw [if_pos h2, if_pos (.inl h2), P.quiverref07_TakeVec.j0, if_pos rfl]
    · rw [if_neg h2, P.quiverref07_TakeVec.j0]
      by_cases h3 : 4 < (n : Int)
      · rw [if_pos (decide_eq_true h3), if_pos (.inr h3)]
      · rw [if_neg (by rw [decide_eq_true_eq]; omega), if_neg (show ¬ ((n : Int) < 1 ∨ 4 < (n : Int)) by omega)]
        rw [show wrap64 (wrap64 ((at_ : Int) + 1) + wrap64 (4 * (n : Int))) = ((at_ + 1 + 4 * n : Nat) : Int) by rw [w3 (by omega) (by omega)]; omega]
        by_cases h4 : l.length < at_ + 1 + 4 * n
        · rw [if_pos (by omega), if_pos h4]
        · rw [if_neg (by omega), if_neg h4]
          have := ref_vec_l0 l hl hby at_ n ha (by omega) (by omega) n 0 k [] (by omega) rfl (by omega)
          rw [List.nil_append, Nat.mul_zero, Nat.add_zero] at this
          exact this

/-- What is left, and whether there were none. -/
abbrev US := List Int × Bool
def uNum (n : Nat) (s : US) : Int × US := if s.2 = true ∨ s.1.length < n then (0, s.1, true) else (num (s.1.take n), s.1.drop n, false)
/-- The reader's box. -/
def IsUr (w0 w : World) (u : Nat) (s : US) : Prop :=
  w0.heap.size ≤ u ∧ Below w0.heap.size w0 w ∧ (∀ x ∈ s.1, isB x) ∧ ∃ A c, s.1.length ≤ c ∧ Kd.C (Kd.int .u8) w0 A s.1.length s.1 ∧ w.heap[u]? = some (.cells #[.slice A s.1.length c, .bool s.2] 117 (0, 0))
theorem IsUr.below {w0 w w1 : World} {u : Nat} {s : US} (h : IsUr w0 w u s) (hb : Below w.heap.size w w1) : IsUr w0 w1 u s := by
  obtain ⟨h1, h2, h3, A, c, h4, h5, h6⟩ := h
  exact ⟨h1, below_step h2 hb, h3, A, c, h4, h5, blk_below h6 hb⟩
theorem IsUr.fr {w0 w w1 : World} {u : Nat} {s : US} {S : Nat → Prop} (h : IsUr w0 w u s) (hf : Fr S w w1) (hu : ¬ S u) (hS : ∀ k, S k → w0.heap.size ≤ k) : IsUr w0 w1 u s := by
  obtain ⟨h1, h2, h3, A, c, h4, h5, h6⟩ := h
  exact ⟨h1, below_step' h2 (Below.refl _ _) hf hS, h3, A, c, h4, h5, hf.blk h6 hu⟩
theorem num_shl (x c : Int) (hx : 0 ≤ x) (h1 : x < 72057594037927936) (hc : 0 ≤ c) (h2 : c ≤ 255) : IntKind.u64.wrap (IntKind.u64.wrap (x * 256) + IntKind.u64.wrap c) = x * 256 + c := by
  rw [show IntKind.u64.wrap (x * 256) = x * 256 from IntWalk.u64_in _ (by omega), show IntKind.u64.wrap c = c from IntWalk.u64_in _ (by omega)]
  exact IntWalk.u64_in _ (by omega)
theorem num_next (l : List Int) (k : Nat) (hl : l.length ≤ 8) (hby : ∀ x ∈ l, isB x) (h : k < l.length) :
    IntKind.u64.wrap (IntKind.u64.wrap (num (l.take k) * 256) + IntKind.u64.wrap (rd l k)) = num (l.take (k + 1)) := by
  have h1 := num_range (l.take k) (fun x hx => hby x (List.mem_of_mem_take hx))
  have h2 : (rd l k) ∈ l := by rw [rd_at l k h]; exact List.getElem_mem h
  have h3 := hby _ h2
  rw [take_snoc l k h, num_snoc]
  refine num_shl _ _ h1.1 (Int.lt_of_lt_of_le h1.2 ?_) h3.1 h3.2
  rw [List.length_take, Nat.min_eq_left (by omega)]
  have hk : k = 0 ∨ k = 1 ∨ k = 2 ∨ k = 3 ∨ k = 4 ∨ k = 5 ∨ k = 6 ∨ k = 7 := by omega
  rcases hk with rfl | rfl | rfl | rfl | rfl | rfl | rfl | rfl <;> decide
theorem cut_from (A : Option Addr) (c : Nat) (l : List Int) (n : Nat) (hn : n ≤ l.length) (hc : l.length ≤ c) : ∃ A', (∀ W : World, (Instr.slice 30 (.slice A l.length c) (some (.int .i64 (n : Int))) none none).run Try.prog W = .ok (.slice A' (l.drop n).length (c - n)) W) ∧
    (∀ W, Kd.C (Kd.int .u8) W A l.length l → Kd.C (Kd.int .u8) W A' (l.drop n).length (l.drop n)) ∧ (l.drop n).length ≤ c - n := by
  obtain ⟨i0, hi0, _, hsz0, _⟩ := info_parts info_u8
  obtain ⟨A', h1, h2⟩ := print_cut_of (P := Try.prog) (Value.int .u8) 0 30 5 .i64 Try.underlying30 hi0 hsz0 A l.length c n hn
  rw [← List.length_drop] at h1 h2
  exact ⟨A', h1, fun W hC => Kd.C_of_reads (h1 := fun _ => rfl) (h2 W l hc (Kd.reads_of_C hC)), by rw [List.length_drop]; omega⟩

set_option maxHeartbeats 4000000 in
set_option maxRecDepth 100000 in
theorem refNum (w0 w : World) (u : Nat) (s : US) (n : Nat) (hn : n ≤ 8) (hI : IsUr w0 w u s) :
    Calls Try.prog 82 #[.pointer (some ⟨u, 0, none⟩), .int .i64 n] w fun e w' => e = .returned (.int .u64 (uNum n s).1) ∧ IsUr w0 w' u (uNum n s).2 ∧ Fr (· = u) w w' := by
  obtain ⟨l, b⟩ := s
  obtain ⟨hu, hB, hby, A, c, hlc, hC, hX⟩ := hI
  simp only at hlc hC hX hby
  have q0 : w.cell? ⟨u, 0, none⟩ = some (.slice A l.length c) := (blk_cell hX 0).trans rfl
  have q1 : w.cell? ⟨u, 1, none⟩ = some (.bool b) := (blk_cell hX 1).trans rfl
  have f0 : w.frozen? ⟨u, 0, none⟩ = false := blk_frozen hX 0
  have f1 : w.frozen? ⟨u, 1, none⟩ = false := blk_frozen hX 1
  have hm := Kd.C_max hC
  have HB := Aside0.mk hB
  have HC := Aside0.mk hC
  have HX := Aside0.mk hX
  have HU := Aside0.mk hu
  have HBY := Aside0.mk hby
  have HBAD := Aside0.mk (show b = true ∨ l.length < n → IsUr w0 (w.setCell ⟨u, 1, none⟩ (.bool true)) u (l, true) from fun _ => ⟨hu, hB.setCell (p := ⟨u, 1, none⟩) hu _, hby, A, c, hlc, hC, by simpa using blk_set hX 1 (.bool true)⟩)
  have HUN := Aside0.mk (show uNum n (l, b) = if b = true ∨ l.length < n then (0, l, true) else (num (l.take n), l.drop n, false) from rfl)
  generalize uNum n (l, b) = res at *
  clear hB hC hX hu hby
  go_enter Try.func82, Try.ntmps82
  cases b with
  | true =>
    rw [if_pos (.inl rfl)] at HUN
    have h := HUN.out
    subst h
    clear HUN
    go_wp2_with fail
    go_returns
    exact ⟨rfl, HBAD.out (by simp), (Fr.refl (· = u) w).setCell (p := ⟨u, 1, none⟩) (.inl rfl) _⟩
  | false =>
    by_cases hl : l.length < n
    case pos =>
      have hz : (l.length : Int) < (n : Int) := by omega
      rw [if_pos (.inr hl)] at HUN
      have h := HUN.out
      subst h
      have HL := Aside0.mk hl
      clear HUN hl
      go_wp2_with fail
      go_returns
      exact ⟨rfl, HBAD.out (.inr HL.out), (Fr.refl (· = u) w).setCell (p := ⟨u, 1, none⟩) (.inl rfl) _⟩
    case neg =>
      have hz : ¬ (l.length : Int) < (n : Int) := by omega
      rw [if_neg (fun h => h.elim (fun h => by cases h) hl)] at HUN
      have h := HUN.out
      subst h
      obtain ⟨hcut, hCr, hlr⟩ := cut_take A c l n (by omega) hlc
      obtain ⟨A', hcut2, hCr2, hlr2⟩ := cut_from A c l n (by omega) hlc
      have HC1 := Aside0.mk (Kd.C_below (hCr _ HC.out) HB.out)
      have HE := Aside0.mk (show IsUr w0 (w.setCell ⟨u, 0, none⟩ (.slice A' (l.drop n).length (c - n))) u (l.drop n, false) from ⟨HU.out, HB.out.setCell (p := ⟨u, 0, none⟩) HU.out _, fun x hx => HBY.out x (List.mem_of_mem_drop hx), A', c - n, hlr2, hCr2 _ HC.out, by simpa using blk_set HX.out 0 _⟩)
      have hmr : (l.take n).length ≤ 8 := by rw [List.length_take]; omega
      have HBR := Aside0.mk (show ∀ x ∈ l.take n, isB x from fun x hx => HBY.out x (List.mem_of_mem_take hx))
      generalize l.take n = r at *
      generalize l.drop n = r2 at *
      clear hCr hCr2 HUN hl hlr hlr2 HBAD HBY HC
      go_wp2_with fail
      go_loopg [5, 7, 31] r.length (fun gg s5 _ s31 wr => ∃ kk : Nat, kk ≤ r.length ∧ r.length - kk ≤ gg ∧ s31 = .int .i64 kk ∧ Aside0 (s5 = .int .u64 (num (r.take kk))) ∧ Aside0 (wr = w))
      case atStart => exact ⟨0, by omega, by omega, rfl, ⟨rfl⟩, ⟨rfl⟩⟩
      case round =>
        obtain ⟨kk, hkk, hg, rfl, H5, HWR⟩ := hrel
        have h5 := H5.out
        have hwr := HWR.out
        subst h5 hwr
        clear H5 HWR
        by_cases hlt : kk < r.length
        · have hltz : (kk : Int) < (r.length : Int) := by omega
          obtain ⟨ad, hA, p0⟩ := Kd.at_int HC1.out (kk : Int) (by omega) (by omega)
          subst hA
          simp only [Int.toNat_natCast] at p0
          have HNX := Aside0.mk (num_next r kk hmr HBR.out hlt)
          generalize num (r.take kk) = x at *
          generalize rd r (kk : Int) = y at *
          go_wp2_with fail
          go_roundg (r.length - (kk + 1))
          case measure => omega
          case rel => exact ⟨kk + 1, by omega, by omega, by go_num, ⟨by rw [← HNX.out]⟩, ⟨rfl⟩⟩
        · have hltz : ¬ (kk : Int) < (r.length : Int) := by omega
          have HT := Aside0.mk (show num (r.take kk) = num r by rw [List.take_of_length_le (by omega)])
          rw [HT.out]
          go_wp2_with fail
          go_returns
          exact ⟨rfl, HE.out, (Fr.refl (· = u) wr).setCell (p := ⟨u, 0, none⟩) (.inl rfl) _⟩
end

section
open Go.Shelf Go.RowKit Go.Proofs.YtngjaaldidmgjaaW.PrintWords Go.Proofs.YtngjaaldidmgjaaW.PrintLast Go.Proofs.YtngjaaldidmgjaaW.PrintMore
set_option linter.unusedVariables false
set_option linter.unusedSimpArgs false

def uVec (s : US) : List Int × US := if s.2 = true then ([], s) else if (tv s.1 0).2.2 = 0 then ((tv s.1 0).1, s.1.drop (tv s.1 0).2.1.toNat, false) else ([], s.1, true)

set_option maxHeartbeats 4000000 in
set_option maxRecDepth 100000 in
theorem refVec (w0 w : World) (u : Nat) (s : US) (hI : IsUr w0 w u s) (hl : s.1.length ≤ 1000) :
    Calls Try.prog 83 #[.pointer (some ⟨u, 0, none⟩)] w fun e w' => ∃ v, e = .returned v ∧ Kd.R (Kd.int .i32) 21 w' w.heap.size (fun _ => True) v (uVec s).1 ∧ IsUr w0 w' u (uVec s).2 ∧ Fr (· = u) w w' := by
  obtain ⟨l, b⟩ := s
  have HI := Aside0.mk hI
  obtain ⟨hu, hB, hby, A, c, hlc, hC, hX⟩ := hI
  simp only at hlc hC hX hby hl
  have q0 : w.cell? ⟨u, 0, none⟩ = some (.slice A l.length c) := (blk_cell hX 0).trans rfl
  have q1 : w.cell? ⟨u, 1, none⟩ = some (.bool b) := (blk_cell hX 1).trans rfl
  have hm := Kd.C_max hC
  have HB := Aside0.mk hB
  have HC := Aside0.mk hC
  have HX := Aside0.mk hX
  have HU := Aside0.mk hu
  have HBY := Aside0.mk hby
  have HLC := Aside0.mk hlc
  have HUN := Aside0.mk (show uVec (l, b) = if b = true then ([], (l, b)) else if (tv l 0).2.2 = 0 then ((tv l 0).1, l.drop (tv l 0).2.1.toNat, false) else ([], l, true) from rfl)
  generalize uVec (l, b) = res at *
  clear hB hX hu
  cases b with
  | true =>
    rw [if_pos rfl] at HUN
    have h := HUN.out
    subst h
    clear HUN hby hC hlc
    go_enter Try.func83, Try.ntmps83
    go_wp2_with fail
    go_returns
    exact ⟨_, rfl, Kd.R_nil _ _ _ _ _, HI.out, Fr.refl _ _⟩
  | false =>
    rw [if_neg (by decide)] at HUN
    have hTV := ref_vec_is l hl hby 0 (by omega) 20 (by omega)
    have HT := Aside0.mk (P.quiverref07_TakeVec.calls 20 A c l ((0 : Nat) : Int) (tv l 0).1 (tv l 0).2.1 (tv l 0).2.2 w (Kd.C_below hC HB.out) hlc hTV)
    have HN := Aside0.mk (show (tv l 0).2.2 = 0 → ∃ n : Nat, n ≤ l.length ∧ (tv l 0).2.1 = (n : Int) from fun h => by
      obtain ⟨h1, h2, h3, h4, h5⟩ := tvg_range l 0 right h
      exact ⟨_, h3, by show (tvg l 0 right).2.1 = _; rw [h5]⟩)
    generalize tv l 0 = t at *
    obtain ⟨xs, n1, e1⟩ := t
    simp only at HT HN HUN
    clear hTV hby hC hlc
    go_enter Try.func83, Try.ntmps83
    go_wp2_with fail
    refine HT.out.mono ?_
    rintro e w1 ⟨v1, rfl, ho, hb⟩
    have HO := Aside0.mk ho
    have HI1 := Aside0.mk (HI.out.below hb)
    have HF1 := Aside0.mk (Fr.of_below (S := (· = u)) hb)
    have hX1 := blk_below HX.out hb
    have HX1 := Aside0.mk hX1
    have HUL := Aside0.mk (blk_lt HX.out)
    have HB1 := Aside0.mk (below_step HB.out hb)
    clear q0 q1 ho hb HT
    have q0 : w1.cell? ⟨u, 0, none⟩ = some (.slice A l.length c) := (blk_cell hX1 0).trans rfl
    have f0 : w1.frozen? ⟨u, 0, none⟩ = false := blk_frozen hX1 0
    have q1 : w1.cell? ⟨u, 1, none⟩ = some (.bool false) := (blk_cell hX1 1).trans rfl
    have f1 : w1.frozen? ⟨u, 1, none⟩ = false := blk_frozen hX1 1
    clear hX1
    by_cases hz : e1 = 0
    case pos =>
      subst hz
      obtain ⟨n, hn, hn1⟩ := HN.out rfl
      subst hn1
      rw [if_pos rfl, Int.toNat_natCast] at HUN
      have h := HUN.out
      subst h
      obtain ⟨A', hcut2, hCr2, hlr2⟩ := cut_from A c l n hn HLC.out
      have HE := Aside0.mk (show IsUr w0 (w1.setCell ⟨u, 0, none⟩ (.slice A' (l.drop n).length (c - n))) u (l.drop n, false) from ⟨HU.out, HB1.out.setCell (p := ⟨u, 0, none⟩) HU.out _, fun x hx => HBY.out x (List.mem_of_mem_drop hx), A', c - n, hlr2, hCr2 _ HC.out, by simpa using blk_set HX1.out 0 _⟩)
      have HO2 := Aside0.mk (show Kd.R (Kd.int .i32) 21 (w1.setCell ⟨u, 0, none⟩ (.slice A' (l.drop n).length (c - n))) w.heap.size (fun _ => True) v1 xs from Kd.R_set HO.out HX1.out (by decide) 0 _)
      generalize hr2 : l.drop n = r2 at *
      have HR2 := Aside0.mk hr2
      clear hr2
      clear hCr2 HUN hlr2 HN
      go_wp2_with fail
      go_returns
      exact ⟨_, rfl, HO2.out, by rw [HR2.out]; exact HE.out, HF1.out.setCell (p := ⟨u, 0, none⟩) (.inl rfl) _⟩
    case neg =>
      have hz2 : (e1 != 0) = true := by rw [bne_iff_ne]; exact hz
      rw [if_neg hz] at HUN
      have h := HUN.out
      subst h
      have HE := Aside0.mk (show IsUr w0 (w1.setCell ⟨u, 1, none⟩ (.bool true)) u (l, true) from ⟨HU.out, HB1.out.setCell (p := ⟨u, 1, none⟩) HU.out _, HBY.out, A, c, HLC.out, HC.out, by simpa using blk_set HX1.out 1 _⟩)
      clear hz HUN HN
      go_wp2_with fail
      go_returns
      exact ⟨_, rfl, Kd.R_nil _ _ _ _ _, HE.out, HF1.out.setCell (p := ⟨u, 1, none⟩) (.inl rfl) _⟩
end

section
open Go.Shelf Go.RowKit Go.Proofs.YtngjaaldidmgjaaW.PrintWords Go.Proofs.YtngjaaldidmgjaaW.PrintLast Go.Proofs.YtngjaaldidmgjaaW.PrintMore
set_option linter.unusedVariables false
set_option linter.unusedSimpArgs false

def uWrite (s : US) : Wr × US :=
  if (uNum 1 (uNum 8 (uNum 1 s).2).2).1 = 0 then (⟨(uNum 1 s).1, (uNum 8 (uNum 1 s).2).1, false, (uVec (uNum 1 (uNum 8 (uNum 1 s).2).2).2).1⟩, (uVec (uNum 1 (uNum 8 (uNum 1 s).2).2).2).2)
  else if (uNum 1 (uNum 8 (uNum 1 s).2).2).1 = 1 then (⟨(uNum 1 s).1, (uNum 8 (uNum 1 s).2).1, true, []⟩, (uNum 1 (uNum 8 (uNum 1 s).2).2).2)
  else (⟨(uNum 1 s).1, (uNum 8 (uNum 1 s).2).1, false, []⟩, (uNum 1 (uNum 8 (uNum 1 s).2).2).2.1, true)
def uMany {α : Type} (f : US → α × US) : Nat → US → List α × US
  | 0, s => ([], s)
  | n + 1, s => if s.2 = false then ((f s).1 :: (uMany f n (f s).2).1, (uMany f n (f s).2).2) else ([], s)
def uDec (bs : List Int) : Rc × US :=
  let k := (uNum 1 (bs, false)).1
  let t := (uNum 1 (bs, false)).2
  if k = 1 then (⟨1, (uNum 8 t).1, 0, 0, 0, (uMany uWrite (uNum 1 (uNum 8 t).2).1.toNat (uNum 1 (uNum 8 t).2).2).1, []⟩, (uMany uWrite (uNum 1 (uNum 8 t).2).1.toNat (uNum 1 (uNum 8 t).2).2).2)
  else if k = 2 then (⟨2, 0, 0, (uNum 1 t).1, (uNum 1 (uNum 1 t).2).1, [], []⟩, (uNum 1 (uNum 1 t).2).2)
  else if k = 3 then (⟨3, 0, 0, (uNum 1 t).1, 0, [], []⟩, (uNum 1 t).2)
  else if k = 4 then (⟨4, 0, 0, (uNum 1 t).1, 0, [], (uMany uVec (uNum 1 (uNum 1 t).2).1.toNat (uNum 1 (uNum 1 t).2).2).1⟩, (uMany uVec (uNum 1 (uNum 1 t).2).1.toNat (uNum 1 (uNum 1 t).2).2).2)
  else if k = 5 then (⟨5, 0, (uNum 8 t).1, 0, 0, [], []⟩, (uNum 8 t).2)
  else (⟨k, 0, 0, 0, 0, [], []⟩, t)
def uOk (bs : List Int) : Bool := !(uDec bs).2.2 && (decide ((uDec bs).2.1.length ≤ 0) && recOk (uDec bs).1)

/-- Both readers stand alike. -/
def Rl (bs : List Int) (t : RS) (s : US) : Prop := s.2 = !t.ok ∧ (t.ok = true → t.p ≤ bs.length ∧ s.1 = bs.drop t.p)
theorem ok_false {t : RS} (h : ¬ t.ok = true) (n : Int) (bs : List Int) : (sNum bs n t).ok = false := by
  obtain ⟨p, s, b⟩ := t
  unfold RS.ok at h ⊢
  unfold sNum
  cases b with
  | true => rfl
  | false =>
    cases s with
    | true => simp only; rw [scBad_no (fits_bad _ _ _)]; rfl
    | false => exact absurd rfl h
theorem num_rl {bs : List Int} {t : RS} {s : US} (h : Rl bs t s) (n : Nat) : Rl bs (sNum bs (n : Int) t) (uNum n s).2 ∧ ((sNum bs (n : Int) t).ok = true → (uNum n s).1 = sVal bs (n : Int) t) := by
  obtain ⟨l, b⟩ := s
  obtain ⟨h1, h2⟩ := h
  simp only at h1 h2
  by_cases ho : t.ok = true
  · obtain ⟨hp, hl⟩ := h2 ho
    rw [ho] at h1
    have h1 : b = false := h1
    subst h1
    obtain ⟨p, s, b⟩ := t
    obtain ⟨hb, hs⟩ := (ok_iff _).1 ho
    simp only at hb hs hl hp
    subst hb hs
    have hll := congrArg List.length hl
    rw [List.length_drop] at hll
    unfold uNum sNum sVal
    simp only
    by_cases hn : l.length < n
    · have hf : fits bs.length p false (n : Int) = false := fits_no _ _ _ (by omega)
      rw [if_pos (.inr hn), scPl_no hf, scBad_no hf]
      exact ⟨⟨rfl, fun h => by cases h⟩, fun h => by cases h⟩
    · have hf : fits bs.length p false (n : Int) = true := fits_yes bs p n (by omega) hp
      rw [if_neg (fun h => h.elim (fun h => by cases h) hn), scPl_yes hf, scBad_yes hf, scTake_yes hf]
      exact ⟨⟨rfl, fun _ => ⟨by simp only; omega, by rw [hl, List.drop_drop]⟩⟩, fun _ => by rw [hl]⟩
  · have hb : b = true := by rw [h1]; cases ht : t.ok; rfl; exact absurd ht ho
    subst hb
    have hk := ok_false ho n bs
    unfold uNum
    rw [if_pos (.inl rfl)]
    exact ⟨⟨by rw [hk]; rfl, fun h => by rw [hk] at h; cases h⟩, fun h => by rw [hk] at h; cases h⟩
theorem vec_rl {bs : List Int} {t : RS} {s : US} (h : Rl bs t s) : Rl bs (sVec bs t).2 (uVec s).2 ∧ ((sVec bs t).2.ok = true → (uVec s).1 = (sVec bs t).1) := by
  have h0 := h
  obtain ⟨l, b⟩ := s
  obtain ⟨h1, h2⟩ := h
  simp only at h1 h2
  unfold sVec uVec
  simp only
  by_cases ho : t.ok = true
  · obtain ⟨hp, hl⟩ := h2 ho
    rw [ho] at h1
    have h1 : b = false := h1
    subst h1
    rw [if_pos ho, if_neg (show ¬ (false = true) by decide), takeVR_is, ← hl]
    unfold tv
    by_cases hz : (tvg l 0 right).2.2 = 0
    · rw [if_pos hz, if_pos hz]
      obtain ⟨g1, g2, g3, g4, g5⟩ := tvg_range l 0 right hz
      have hn : (tvg l 0 right).2.1 = (((0 + 1 + 4 * (l.getD 0 0).toNat : Nat)) : Int) := by rw [g5]
      rw [hn, Int.toNat_natCast]
      obtain ⟨e1, e2⟩ := num_rl h0 (0 + 1 + 4 * (l.getD 0 0).toNat)
      have e3 : uNum (0 + 1 + 4 * (l.getD 0 0).toNat) (l, false) = (num (l.take (0 + 1 + 4 * (l.getD 0 0).toNat)), l.drop (0 + 1 + 4 * (l.getD 0 0).toNat), false) := by unfold uNum; rw [if_neg (fun h => h.elim (fun h => by cases h) (fun h => by simp only at h; omega))]
      rw [e3] at e1
      exact ⟨e1, fun _ => rfl⟩
    · rw [if_neg hz, if_neg hz]
      exact ⟨⟨rfl, fun h => by simp [RS.ok] at h⟩, fun _ => rfl⟩
  · have hb : b = true := by rw [h1]; cases ht : t.ok; rfl; exact absurd ht ho
    subst hb
    rw [if_neg ho, if_pos rfl]
    exact ⟨h0, fun h => absurd h ho⟩
theorem Rl.not {bs : List Int} {t : RS} {s : US} (h : Rl bs t s) (hn : t.ok = false) : s.2 = true := by rw [h.1, hn]; rfl
theorem rl_not {bs : List Int} {t : RS} {s : US} (hn : t.ok = false) (hs : s.2 = true) : Rl bs t s := ⟨by rw [hn, hs]; rfl, fun h => by rw [hn] at h; cases h⟩
theorem sVec_not {bs : List Int} {t : RS} (h : t.ok = false) : (sVec bs t).2.ok = false := by unfold sVec; rw [if_neg (by rw [h]; decide)]; exact h
theorem uVec_not {s : US} (h : s.2 = true) : (uVec s).2.2 = true := by unfold uVec; rw [if_pos h]; exact h
theorem not_ok_prev {bs : List Int} {t : RS} {n : Int} (h : (sNum bs n t).ok = true) : t.ok = true := by
  cases ht : t.ok with
  | true => rfl
  | false => rw [ok_false (by rw [ht]; decide) n bs] at h; cases h
theorem write_rl {bs : List Int} {t : RS} {s : US} (h : Rl bs t s) : Rl bs (sWrite bs t).2 (uWrite s).2 ∧ ((sWrite bs t).2.ok = true → (uWrite s).1 = (sWrite bs t).1) := by
  obtain ⟨r1, v1⟩ := num_rl h 1
  obtain ⟨r2, v2⟩ := num_rl r1 8
  obtain ⟨r3, v3⟩ := num_rl r2 1
  obtain ⟨r4, v4⟩ := vec_rl r3
  unfold sWrite uWrite
  simp only [Int.cast_ofNat_Int] at *
  cases h3 : (sNum bs 1 (sNum bs 8 (sNum bs 1 t))).ok with
  | true =>
    have h2 := not_ok_prev h3
    have h1 := not_ok_prev h2
    rw [v1 h1, v2 h2, v3 h3]
    by_cases k0 : sVal bs 1 (sNum bs 8 (sNum bs 1 t)) = 0
    · rw [if_pos k0, if_pos k0]
      exact ⟨r4, fun h => by rw [v4 h]⟩
    · rw [if_neg k0, if_neg k0]
      by_cases k1 : sVal bs 1 (sNum bs 8 (sNum bs 1 t)) = 1
      · rw [if_pos k1, if_pos k1]
        exact ⟨r3, fun _ => rfl⟩
      · rw [if_neg k1, if_neg k1]
        exact ⟨⟨by simp [RS.ok], fun h => by simp [RS.ok] at h⟩, fun _ => rfl⟩
  | false =>
    have hb := r3.not h3
    have A : ∀ (p : Prop) [Decidable p] (q : Prop) [Decidable q] (x y z : Wr), (if p then (x, (sVec bs (sNum bs 1 (sNum bs 8 (sNum bs 1 t)))).2) else if q then (y, sNum bs 1 (sNum bs 8 (sNum bs 1 t))) else (z, RS.mk (sNum bs 1 (sNum bs 8 (sNum bs 1 t))).p (sNum bs 1 (sNum bs 8 (sNum bs 1 t))).s true)).2.ok = false := by
      intro p _ q _ x y z
      by_cases hp : p
      · rw [if_pos hp]; exact sVec_not h3
      · rw [if_neg hp]
        by_cases hq : q
        · rw [if_pos hq]; exact h3
        · rw [if_neg hq]; simp [RS.ok]
    have B : ∀ (p : Prop) [Decidable p] (q : Prop) [Decidable q] (x y z : Wr), (if p then (x, (uVec (uNum 1 (uNum 8 (uNum 1 s).2).2).2).2) else if q then (y, (uNum 1 (uNum 8 (uNum 1 s).2).2).2) else (z, (uNum 1 (uNum 8 (uNum 1 s).2).2).2.1, true)).2.2 = true := by
      intro p _ q _ x y z
      by_cases hp : p
      · rw [if_pos hp]; exact uVec_not hb
      · rw [if_neg hp]
        by_cases hq : q
        · rw [if_pos hq]; exact hb
        · rw [if_neg hq]
    exact ⟨rl_not (A _ _ _ _ _) (B _ _ _ _ _), fun h => by rw [A] at h; cases h⟩
theorem sMany_not {α : Type} {f : RS → α × RS} {t : RS} (h : t.ok = false) (n : Nat) : sMany f n t = ([], t) := by
  cases n with
  | zero => rfl
  | succ n => rw [sMany, if_neg (by rw [h]; decide)]
theorem uMany_not {α : Type} {f : US → α × US} {s : US} (h : s.2 = true) (n : Nat) : uMany f n s = ([], s) := by
  cases n with
  | zero => rfl
  | succ n => rw [uMany, if_neg (by rw [h]; decide)]
theorem many_rl {α : Type} {bs : List Int} {f : RS → α × RS} {g : US → α × US} (hf : ∀ t s, Rl bs t s → Rl bs (f t).2 (g s).2 ∧ ((f t).2.ok = true → (g s).1 = (f t).1)) : ∀ (n : Nat) (t : RS) (s : US), Rl bs t s → Rl bs (sMany f n t).2 (uMany g n s).2 ∧ ((sMany f n t).2.ok = true → (uMany g n s).1 = (sMany f n t).1)
  | 0, t, s, h => ⟨h, fun _ => rfl⟩
  | n + 1, t, s, h => by
    cases ht : t.ok with
    | false => rw [sMany_not ht, uMany_not (h.not ht)]; exact ⟨h, fun _ => rfl⟩
    | true =>
      obtain ⟨r1, v1⟩ := hf t s h
      obtain ⟨r2, v2⟩ := many_rl hf n _ _ r1
      rw [sMany, if_pos ht, uMany, if_pos (by rw [h.1, ht]; rfl)]
      refine ⟨r2, fun hk => ?_⟩
      simp only at hk ⊢
      rw [v2 hk]
      cases hk2 : (f t).2.ok with
      | true => rw [v1 hk2]
      | false => rw [sMany_not hk2] at hk; rw [hk2] at hk; cases hk
theorem many_rl_n {α : Type} {bs : List Int} {f : RS → α × RS} {g : US → α × US} (hf : ∀ t s, Rl bs t s → Rl bs (f t).2 (g s).2 ∧ ((f t).2.ok = true → (g s).1 = (f t).1)) (n m : Nat) (t : RS) (s : US) (h : Rl bs t s) (hn : t.ok = true → m = n) : Rl bs (sMany f n t).2 (uMany g m s).2 ∧ ((sMany f n t).2.ok = true → (uMany g m s).1 = (sMany f n t).1) := by
  cases ht : t.ok with
  | true => rw [hn ht]; exact many_rl hf n t s h
  | false => rw [sMany_not ht, uMany_not (h.not ht)]; exact ⟨h, fun _ => rfl⟩
theorem dec_rl (bs : List Int) : Rl bs (sDec bs).t (uDec bs).2 ∧ ((sDec bs).t.ok = true → (uDec bs).1 = (sDec bs).rec_) := by
  have h : Rl bs ⟨0, false, false⟩ (bs, false) := ⟨rfl, fun _ => ⟨Nat.zero_le _, rfl⟩⟩
  obtain ⟨r1, v1⟩ := num_rl h 1
  have hk : (uNum 1 (bs, false)).1 = sVal bs 1 ⟨0, false, false⟩ := by
    by_cases hl : bs.length < 1
    · have hf : fits bs.length 0 false 1 = false := fits_no _ _ _ (by omega)
      unfold uNum sVal
      rw [if_pos (.inr hl)]
      simp only
      rw [scTake_no hf]; rfl
    · refine v1 ?_
      have hf : fits bs.length 0 false ((1 : Nat) : Int) = true := fits_yes bs 0 1 (by omega) (by omega)
      unfold sNum RS.ok
      simp only
      rw [scBad_yes hf]; rfl
  unfold sDec uDec
  simp only [Int.cast_ofNat_Int] at *
  rw [hk]
  generalize sVal bs 1 ⟨0, false, false⟩ = k at *
  generalize sNum bs 1 ⟨0, false, false⟩ = t at *
  generalize (uNum 1 (bs, false)).2 = s at *
  clear h v1 hk
  by_cases k1 : k = 1
  · rw [if_pos k1, if_pos k1]
    obtain ⟨r2, v2⟩ := num_rl r1 8
    obtain ⟨r3, v3⟩ := num_rl r2 1
    simp only [Int.cast_ofNat_Int] at *
    obtain ⟨r4, v4⟩ := many_rl_n (f := sWrite bs) (g := uWrite) (fun _ _ h => write_rl h) (sVal bs 1 (sNum bs 8 t)).toNat (uNum 1 (uNum 8 s).2).1.toNat _ _ r3 (fun h => by rw [v3 h])
    unfold sCommit
    refine ⟨r4, fun ho => ?_⟩
    have hq : (sNum bs 1 (sNum bs 8 t)).ok = true := by
      cases hq : (sNum bs 1 (sNum bs 8 t)).ok with
      | true => rfl
      | false => simp only at ho; rw [sMany_not hq] at ho; rw [hq] at ho; cases ho
    unfold DR.rec_
    simp only
    rw [v4 ho, v2 (not_ok_prev hq)]
  rw [if_neg k1, if_neg k1]
  by_cases k2 : k = 2
  · rw [if_pos k2, if_pos k2]
    obtain ⟨r2, v2⟩ := num_rl r1 1
    obtain ⟨r3, v3⟩ := num_rl r2 1
    simp only [Int.cast_ofNat_Int] at *
    refine ⟨r3, fun ho => ?_⟩
    unfold DR.rec_
    simp only
    rw [v3 ho, v2 (not_ok_prev ho)]
  rw [if_neg k2, if_neg k2]
  by_cases k3 : k = 3
  · rw [if_pos k3, if_pos k3]
    obtain ⟨r2, v2⟩ := num_rl r1 1
    simp only [Int.cast_ofNat_Int] at *
    refine ⟨r2, fun ho => ?_⟩
    unfold DR.rec_
    simp only
    rw [v2 ho]
  rw [if_neg k3, if_neg k3]
  by_cases k4 : k = 4
  · rw [if_pos k4, if_pos k4]
    obtain ⟨r2, v2⟩ := num_rl r1 1
    obtain ⟨r3, v3⟩ := num_rl r2 1
    simp only [Int.cast_ofNat_Int] at *
    obtain ⟨r4, v4⟩ := many_rl_n (f := sVec bs) (g := uVec) (fun _ _ h => vec_rl h) (sVal bs 1 (sNum bs 1 t)).toNat (uNum 1 (uNum 1 s).2).1.toNat _ _ r3 (fun h => by rw [v3 h])
    unfold sTrain
    refine ⟨r4, fun ho => ?_⟩
    have hq : (sNum bs 1 (sNum bs 1 t)).ok = true := by
      cases hq : (sNum bs 1 (sNum bs 1 t)).ok with
      | true => rfl
      | false => simp only at ho; rw [sMany_not hq] at ho; rw [hq] at ho; cases ho
    unfold DR.rec_
    simp only
    rw [v4 ho, v2 (not_ok_prev hq)]
  rw [if_neg k4, if_neg k4]
  by_cases k5 : k = 5
  · rw [if_pos k5, if_pos k5]
    obtain ⟨r2, v2⟩ := num_rl r1 8
    simp only [Int.cast_ofNat_Int] at *
    refine ⟨r2, fun ho => ?_⟩
    unfold DR.rec_
    simp only
    rw [v2 ho]
  rw [if_neg k5, if_neg k5]
  exact ⟨r1, fun _ => rfl⟩
theorem uOk_is (bs : List Int) : uOk bs = decOk bs := by
  obtain ⟨⟨h1, h2⟩, h3⟩ := dec_rl bs
  unfold uOk decOk
  rw [h1, Bool.not_not]
  cases ho : (sDec bs).t.ok with
  | false => rfl
  | true =>
    obtain ⟨hp, hl⟩ := h2 ho
    rw [h3 ho, hl, List.length_drop]
    congr 1
    congr 1
    exact decide_eq_decide.mpr ⟨fun h => by omega, fun h => by omega⟩
theorem uRec_is (bs : List Int) (h : uOk bs = true) : (uDec bs).1 = (sDec bs).rec_ := by
  rw [uOk_is] at h
  unfold decOk at h
  rw [Bool.and_eq_true] at h
  exact (dec_rl bs).2 h.1
end

section
open Go.Shelf Go.RowKit Go.Proofs.YtngjaaldidmgjaaW.PrintWords Go.Proofs.YtngjaaldidmgjaaW.PrintLast Go.Proofs.YtngjaaldidmgjaaW.PrintMore
set_option linter.unusedVariables false
set_option linter.unusedSimpArgs false

theorem uNum_range {n : Nat} {s : US} (hby : ∀ x ∈ s.1, isB x) : 0 ≤ (uNum n s).1 ∧ (uNum n s).1 < 256 ^ n := by
  unfold uNum
  split
  · exact ⟨Int.le_refl _, Int.pow_pos (by decide)⟩
  · rename_i h
    have hr := num_range (s.1.take n) (fun x hx => hby x (List.mem_of_mem_take hx))
    rwa [List.length_take, Nat.min_eq_left (by omega)] at hr
theorem uNum_one {s : US} (hby : ∀ x ∈ s.1, isB x) : 0 ≤ (uNum 1 s).1 ∧ (uNum 1 s).1 ≤ 255 := by
  have h := uNum_range (n := 1) hby
  rw [show (256 : Int) ^ 1 = 256 by decide] at h
  omega
theorem uMany_step {α : Type} {f : US → α × US} {n k : Nat} {u : US} {xs : List α} {fin : List α × US} (h : fin = (xs ++ (uMany f (n - k) u).1, (uMany f (n - k) u).2)) (hk : k < n) (ho : u.2 = false) :
    fin = (xs ++ [(f u).1] ++ (uMany f (n - (k + 1)) (f u).2).1, (uMany f (n - (k + 1)) (f u).2).2) := by
  rw [h, show n - k = (n - (k + 1)) + 1 by omega, uMany, if_pos ho]
  simp
theorem uMany_stop {α : Type} {f : US → α × US} {n k : Nat} {u : US} {xs : List α} {fin : List α × US} (h : fin = (xs ++ (uMany f (n - k) u).1, (uMany f (n - k) u).2)) (hk : n ≤ k ∨ u.2 = true) : fin = (xs, u) := by
  rw [h]
  rcases hk with hk | hk
  · rw [show n - k = 0 by omega, uMany, List.append_nil]
  · rw [uMany_not hk, List.append_nil]
theorem uNum_len (n : Nat) (s : US) : (uNum n s).2.1.length ≤ s.1.length := by
  unfold uNum
  split
  · exact Nat.le_refl _
  · simp only [List.length_drop]; omega
theorem uNum_by {n : Nat} {s : US} (h : ∀ x ∈ s.1, isB x) : ∀ x ∈ (uNum n s).2.1, isB x := by
  unfold uNum
  split
  · exact h
  · exact fun x hx => h x (List.mem_of_mem_drop hx)
theorem uVec_len (s : US) : (uVec s).2.1.length ≤ s.1.length := by
  unfold uVec
  split
  · exact Nat.le_refl _
  · split
    · simp only [List.length_drop]; omega
    · exact Nat.le_refl _
/-- Where Read is: the result's box, the reader, the record's box. -/
def RX (W w : World) (u r : Nat) (s : US) (q : Array Value) : Prop :=
  w.heap[W.heap.size]? = some (.cells zcL 28 (0, 0)) ∧ IsUr W w u s ∧ w.heap[r]? = some (.cells q 28 (0, 0)) ∧ W.heap.size < u ∧ u < r
theorem RX.num {W w w1 : World} {u r : Nat} {s s1 : US} {q : Array Value} (h : RX W w u r s q) (hf : Fr (· = u) w w1) (hi : IsUr W w1 u s1) : RX W w1 u r s1 q :=
  ⟨hf.blk h.1 (fun e => by have := h.2.2.2.1; omega), hi, hf.blk h.2.2.1 (fun e => by have := h.2.2.2.2; omega), h.2.2.2⟩
theorem RX.below {W w w1 : World} {u r : Nat} {s : US} {q : Array Value} (h : RX W w u r s q) (hb : Below w.heap.size w w1) : RX W w1 u r s q :=
  ⟨blk_below h.1 hb, h.2.1.below hb, blk_below h.2.2.1 hb, h.2.2.2⟩
theorem RX.set {W w : World} {u r : Nat} {s : US} {q : Array Value} (h : RX W w u r s q) (i : Nat) (v : Value) (q' : Array Value) (e : q.setIfInBounds i v = q') : RX W (w.setCell ⟨r, i, none⟩ v) u r s q' := by
  have hf : Fr (· = r) w (w.setCell ⟨r, i, none⟩ v) := (Fr.refl (· = r) w).setCell (p := ⟨r, i, none⟩) (.inl rfl) _
  have h4 := h.2.2.2
  exact ⟨hf.blk h.1 (fun e => by omega), h.2.1.fr hf (by omega) (fun k hk => by omega), blk_put h.2.2.1 i v e, h4⟩
theorem RX.off {W w w1 : World} {u r B : Nat} {s : US} {q : Array Value} (h : RX W w u r s q) (hf : Fr (· = B) w w1) (hB : r < B) : RX W w1 u r s q := by
  have h4 := h.2.2.2
  exact ⟨hf.blk h.1 (fun e => by omega), h.2.1.fr hf (by omega) (fun k hk => by omega), hf.blk h.2.2.1 (fun e => by omega), h4⟩
theorem RX.low {W w w1 : World} {u r N : Nat} {s : US} {q : Array Value} (h : RX W w u r s q) (hb : Below N w w1) (hr : r < N) : RX W w1 u r s q := by
  obtain ⟨h1, ⟨i1, i2, i3, A, c, i4, i5, i6⟩, h3, h4, h5⟩ := h
  exact ⟨(hb.block _ (by omega)).trans h1, ⟨i1, i2.trans (Below.less hb (by omega)), i3, A, c, i4, i5, (hb.block _ (by omega)).trans i6⟩, (hb.block _ hr).trans h3, h4, h5⟩
theorem RX.base {W w : World} {u r : Nat} {s : US} {q : Array Value} (h : RX W w u r s q) : Below W.heap.size W w := h.2.1.2.1
theorem RX.by {W w : World} {u r : Nat} {s : US} {q : Array Value} (h : RX W w u r s q) : ∀ x ∈ s.1, isB x := h.2.1.2.2.1
theorem RX.ucells {W w : World} {u r : Nat} {s : US} {q : Array Value} (h : RX W w u r s q) : ∃ A c, w.cell? ⟨u, 0, none⟩ = some (.slice A s.1.length c) ∧ w.cell? ⟨u, 1, none⟩ = some (.bool s.2) ∧ w.frozen? ⟨u, 1, none⟩ = false := by
  obtain ⟨_, ⟨_, _, _, A, c, _, _, hX⟩, _⟩ := h
  exact ⟨A, c, (blk_cell hX 0).trans rfl, (blk_cell hX 1).trans rfl, blk_frozen hX 1⟩
/-- The reader told that it is bad. -/
theorem RX.bad {W w : World} {u r : Nat} {s : US} {q : Array Value} (h : RX W w u r s q) : RX W (w.setCell ⟨u, 1, none⟩ (.bool true)) u r (s.1, true) q := by
  have hf : Fr (· = u) w (w.setCell ⟨u, 1, none⟩ (.bool true)) := (Fr.refl (· = u) w).setCell (p := ⟨u, 1, none⟩) (.inl rfl) _
  refine h.num hf ?_
  obtain ⟨h1, h2, h3, A, c, h4, h5, h6⟩ := h.2.1
  exact ⟨h1, below_step' h2 (Below.refl _ _) hf (fun k hk => by omega), h3, A, c, h4, h5, blk_put h6 1 _ rfl⟩

set_option maxHeartbeats 4000000 in
set_option maxRecDepth 100000 in
theorem readGo (A : Option Addr) (c : Nat) (bs : List Int) (W : World) (hr : Kd.C (Kd.int .u8) W A bs.length bs) (hc : bs.length ≤ c) (hl : bs.length ≤ 1000) (hby : ∀ x ∈ bs, isB x) :
    Calls Try.prog 47 #[.slice A bs.length c] W fun e w' =>
      (uOk bs = true → ∃ A5 c5 A6 c6, e = .returned (.tuple #[.agg (rcL (uDec bs).1 A5 c5 A6 c6), .bool true]) ∧
        (Kd.F kW w' (fun k => W.heap.size < k) A5 (uDec bs).1.f5.length (uDec bs).1.f5 ∧ (uDec bs).1.f5.length ≤ c5) ∧ (Kd.F kV w' (fun k => W.heap.size < k) A6 (uDec bs).1.f6.length (uDec bs).1.f6 ∧ (uDec bs).1.f6.length ≤ c6)) ∧
      (uOk bs = false → e = .returned (.tuple #[.agg zcL, .bool false])) ∧ Below W.heap.size W w' := by
  obtain ⟨w1, hw1⟩ : ∃ w1, w1 = W.alloc (.cells zcL 28) := ⟨_, rfl⟩
  have hB1 : Below W.heap.size W w1 := by rw [hw1]; exact below_alloc (Below.refl _ _) _
  have hX1 := show w1.heap[W.heap.size]? = some (.cells zcL 28 (0, 0)) by rw [hw1]; exact heap_alloc_new W _
  obtain ⟨w2, hw2⟩ : ∃ w2, w2 = w1.alloc (.cells #[.slice A bs.length c, .bool false] 117) := ⟨_, rfl⟩
  have hb12 : Below w1.heap.size w1 w2 := by rw [hw2]; exact below_alloc (Below.refl _ _) _
  have hI2 : IsUr W w2 w1.heap.size (bs, false) := ⟨below_size hB1, below_step hB1 hb12, hby, A, c, hc, hr, by rw [hw2]; exact heap_alloc_new w1 _⟩
  have hX2 := blk_below hX1 hb12
  obtain ⟨u, hu⟩ : ∃ u, u = w1.heap.size := ⟨_, rfl⟩
  have HUW := Aside0.mk (show W.heap.size < u by rw [hu]; exact blk_lt hX1)
  have HUL := Aside0.mk (show u < w2.heap.size by rw [hu, hw2]; simp)
  rw [← hu] at hI2
  have HN1 := Aside0.mk (refNum W w2 u (bs, false) 1 (by decide) hI2)
  obtain ⟨hka, hkb⟩ := uNum_one (s := (bs, false)) hby
  have HW1 := Aside0.mk hw1
  have HW2 := Aside0.mk hw2
  have HU := Aside0.mk hu
  have HX2 := Aside0.mk hX2
  obtain ⟨d, hd⟩ : ∃ d, d = uDec bs := ⟨_, rfl⟩
  have HOK := Aside0.mk (show uOk bs = (!d.2.2 && (decide (d.2.1.length ≤ 0) && recOk d.1)) by rw [hd]; rfl)
  rw [← hd]
  unfold uDec at hd
  simp only at hd
  have HD := Aside0.mk hd
  have HTL0 := Aside0.mk (show (uNum 1 (bs, false)).2.1.length ≤ bs.length from uNum_len 1 (bs, false))
  clear hw1 hw2 hB1 hX1 hb12 hI2 hX2 hu hd hr hc
  generalize (uNum 1 (bs, false)).1 = k at *
  generalize (uNum 1 (bs, false)).2 = t at *
  go_enter Try.func47, Try.ntmps47
  go_upto_region 1 with (fail)
  rw [← HW1.out]
  go_upto_region 2 with (fail)
  rw [← HW2.out, ← HU.out]
  go_wp2_with fail
  refine HN1.out.mono ?_
  rintro e w3 ⟨rfl, hi, hf⟩
  have hX3 := hf.blk HX2.out (fun e => by have := HUW.out; omega)
  have hs3 : u < w3.heap.size := Nat.lt_of_lt_of_le HUL.out hf.size
  go_upto_region 3 with (fail)
  obtain ⟨r, hr⟩ : ∃ r, r = w3.heap.size := ⟨_, rfl⟩
  obtain ⟨w4, hw4⟩ : ∃ w4, w4 = w3.alloc (.cells #[.int .i64 k, .int .u64 0, .int .u64 0, .int .i64 0, .int .i64 0, .slice none 0 0, .slice none 0 0] 28) := ⟨_, rfl⟩
  rw [← hw4, ← hr]
  have HR4 := Aside0.mk (show RX W w4 u r t #[.int .i64 k, .int .u64 0, .int .u64 0, .int .i64 0, .int .i64 0, .slice none 0 0, .slice none 0 0] by
    have hb : Below w3.heap.size w3 w4 := by rw [hw4]; exact below_alloc (Below.refl _ _) _
    exact ⟨blk_below hX3 hb, hi.below hb, by rw [hw4, hr]; exact heap_alloc_new w3 _, HUW.out, by rw [hr]; exact hs3⟩)
  have HRL := Aside0.mk (show r < w4.heap.size by rw [hw4, hr]; simp)
  have HTL := Aside0.mk (show t.1.length ≤ 1000 from Nat.le_trans HTL0.out hl)
  have q0 : w4.cell? ⟨r, 0, none⟩ = some (.int .i64 k) := (blk_cell HR4.out.2.2.1 0).trans rfl
  clear hw4 hr hi hf hX3 hs3 HX2 HU HUL HW1 HW2 HN1
  go_upto_region 4 with (fail)
  rename_i K1 hK1 K0 hK0
  have tail : ∀ (a : Act) (wc : World) (u1 u6 u7 u8 u9 u10 u11 u12 u13 u14 u15 u16 u17 u18 u19 u20 u21 u22 u23 u24 u25 u26 u27 u28 u29 u30 u31 u32 u33 u34 u35 u36 u37 u38 u39 u40 u41 u42 u43 u44 u45 u46 u47 u48 u49 u50 u51 u52 u53 u54 u55 u56 u57 u58 u59 u60 u61 u62 u63 u64 u65 u66 u67 u68 u69 u70 u71 u72 u73 u74 u75 u76 u77 u78 u79 u80 u81 u82 u83 u84 u85 u86 u87 u88 u89 u90 u91 u92 u93 u94 u95 u96 u97 u98 u99 u100 u101 u102 u103 u104 u105 u106 u107 u108 u109 u110 u111 u112 u113 u114 u115 u116 u117 u118 u119 u120 : Value) (A5 : Option Addr) (c5 : Nat) (A6 : Option Addr) (c6 : Nat), a = ⟨#[.slice A bs.length c, u1, .pointer (some ⟨W.heap.size, 0, none⟩), .bool false, .pointer (some ⟨u, 0, none⟩), .pointer (some ⟨r, 0, none⟩), u6, u7, u8, u9, u10, u11, u12, u13, u14, u15, u16, u17, u18, u19, u20, u21, u22, u23, u24, u25, u26, u27, u28, u29, u30, u31, u32, u33, u34, u35, u36, u37, u38, u39, u40, u41, u42, u43, u44, u45, u46, u47, u48, u49, u50, u51, u52, u53, u54, u55, u56, u57, u58, u59, u60, u61, u62, u63, u64, u65, u66, u67, u68, u69, u70, u71, u72, u73, u74, u75, u76, u77, u78, u79, u80, u81, u82, u83, u84, u85, u86, u87, u88, u89, u90, u91, u92, u93, u94, u95, u96, u97, u98, u99, u100, u101, u102, u103, u104, u105, u106, u107, u108, u109, u110, u111, u112, u113, u114, u115, u116, u117, u118, u119, u120], []⟩ →
      Aside0 (RX W wc u r d.2 (rcL d.1 A5 c5 A6 c6)) →
      Aside0 (Kd.F kW wc (fun k => W.heap.size < k) A5 d.1.f5.length d.1.f5 ∧ d.1.f5.length ≤ c5) → Aside0 (Kd.F kV wc (fun k => W.heap.size < k) A6 d.1.f6.length d.1.f6 ∧ d.1.f6.length ≤ c6) → K1 a wc := by
    intro a wc u1 u6 u7 u8 u9 u10 u11 u12 u13 u14 u15 u16 u17 u18 u19 u20 u21 u22 u23 u24 u25 u26 u27 u28 u29 u30 u31 u32 u33 u34 u35 u36 u37 u38 u39 u40 u41 u42 u43 u44 u45 u46 u47 u48 u49 u50 u51 u52 u53 u54 u55 u56 u57 u58 u59 u60 u61 u62 u63 u64 u65 u66 u67 u68 u69 u70 u71 u72 u73 u74 u75 u76 u77 u78 u79 u80 u81 u82 u83 u84 u85 u86 u87 u88 u89 u90 u91 u92 u93 u94 u95 u96 u97 u98 u99 u100 u101 u102 u103 u104 u105 u106 u107 u108 u109 u110 u111 u112 u113 u114 u115 u116 u117 u118 u119 u120 A5 c5 A6 c6 ha HR HF5 HF6
    subst ha
    clear hK0
    refine hK1 _ _ ?_
    clear hK1 HR4 HTL HRL q0 HD
    obtain ⟨Ay, cy, y0, y1, fy⟩ := HR.out.ucells
    have HXe := Aside0.mk HR.out.1
    have HBe := Aside0.mk HR.out.base
    cases hb : d.2.2 with
    | true =>
      have HNO := Aside0.mk (show uOk bs = false by rw [HOK.out, hb]; rfl)
      rw [hb] at y1
      clear hb
      obtain ⟨⟨e0, e1, e2, e3, e4, e5, e6⟩, f0, f1, f2, f3, f4, f5, f6⟩ := boxF HXe.out
      go_wp2_with fail
      obtain ⟨w9, hw9⟩ : ∃ w9, w9 = (((((((wc.setCell ⟨W.heap.size, 0, none⟩ (.int .i64 0)).setCell ⟨W.heap.size, 1, none⟩ (.int .u64 0)).setCell ⟨W.heap.size, 2, none⟩ (.int .u64 0)).setCell ⟨W.heap.size, 3, none⟩ (.int .i64 0)).setCell ⟨W.heap.size, 4, none⟩ (.int .i64 0)).setCell ⟨W.heap.size, 5, none⟩ (.slice none 0 0)).setCell ⟨W.heap.size, 6, none⟩ (.slice none 0 0)) := ⟨_, rfl⟩
      rw [← hw9]
      obtain ⟨hX9, hf9⟩ := box7 HXe.out hw9
      clear e0 e1 e2 e3 e4 e5 e6
      have e0 : w9.cell? ⟨W.heap.size, 0, none⟩ = some (.int .i64 0) := (blk_cell hX9 0).trans rfl
      have e1 : w9.cell? ⟨W.heap.size, 1, none⟩ = some (.int .u64 0) := (blk_cell hX9 1).trans rfl
      have e2 : w9.cell? ⟨W.heap.size, 2, none⟩ = some (.int .u64 0) := (blk_cell hX9 2).trans rfl
      have e3 : w9.cell? ⟨W.heap.size, 3, none⟩ = some (.int .i64 0) := (blk_cell hX9 3).trans rfl
      have e4 : w9.cell? ⟨W.heap.size, 4, none⟩ = some (.int .i64 0) := (blk_cell hX9 4).trans rfl
      have e5 : w9.cell? ⟨W.heap.size, 5, none⟩ = some (.slice none 0 0) := (blk_cell hX9 5).trans rfl
      have e6 : w9.cell? ⟨W.heap.size, 6, none⟩ = some (.slice none 0 0) := (blk_cell hX9 6).trans rfl
      refine bodyPost_ret (by simp [results, Try.results47, go_sem, e0, e1, e2, e3, e4, e5, e6]; try rfl) rfl ?_
      exact ⟨fun h => absurd h (by rw [HNO.out]; decide), fun _ => rfl, below9 HBe.out hf9⟩
    | false =>
      rw [hb] at y1
      by_cases hlt : 0 < d.2.1.length
      · have HNO := Aside0.mk (show uOk bs = false by rw [HOK.out, hb, decide_eq_false (by omega)]; rfl)
        have hltz : (0 : Int) < (d.2.1.length : Int) := by omega
        clear hb
        obtain ⟨⟨e0, e1, e2, e3, e4, e5, e6⟩, f0, f1, f2, f3, f4, f5, f6⟩ := boxF HXe.out
        go_wp2_with fail
        obtain ⟨w9, hw9⟩ : ∃ w9, w9 = (((((((wc.setCell ⟨W.heap.size, 0, none⟩ (.int .i64 0)).setCell ⟨W.heap.size, 1, none⟩ (.int .u64 0)).setCell ⟨W.heap.size, 2, none⟩ (.int .u64 0)).setCell ⟨W.heap.size, 3, none⟩ (.int .i64 0)).setCell ⟨W.heap.size, 4, none⟩ (.int .i64 0)).setCell ⟨W.heap.size, 5, none⟩ (.slice none 0 0)).setCell ⟨W.heap.size, 6, none⟩ (.slice none 0 0)) := ⟨_, rfl⟩
        rw [← hw9]
        obtain ⟨hX9, hf9⟩ := box7 HXe.out hw9
        clear e0 e1 e2 e3 e4 e5 e6
        have e0 : w9.cell? ⟨W.heap.size, 0, none⟩ = some (.int .i64 0) := (blk_cell hX9 0).trans rfl
        have e1 : w9.cell? ⟨W.heap.size, 1, none⟩ = some (.int .u64 0) := (blk_cell hX9 1).trans rfl
        have e2 : w9.cell? ⟨W.heap.size, 2, none⟩ = some (.int .u64 0) := (blk_cell hX9 2).trans rfl
        have e3 : w9.cell? ⟨W.heap.size, 3, none⟩ = some (.int .i64 0) := (blk_cell hX9 3).trans rfl
        have e4 : w9.cell? ⟨W.heap.size, 4, none⟩ = some (.int .i64 0) := (blk_cell hX9 4).trans rfl
        have e5 : w9.cell? ⟨W.heap.size, 5, none⟩ = some (.slice none 0 0) := (blk_cell hX9 5).trans rfl
        have e6 : w9.cell? ⟨W.heap.size, 6, none⟩ = some (.slice none 0 0) := (blk_cell hX9 6).trans rfl
        refine bodyPost_ret (by simp [results, Try.results47, go_sem, e0, e1, e2, e3, e4, e5, e6]; try rfl) rfl ?_
        exact ⟨fun h => absurd h (by rw [HNO.out]; decide), fun _ => rfl, below9 HBe.out hf9⟩
      · have hlz : d.2.1.length = 0 := by omega
        rw [hlz] at y0
        have HC := Aside0.mk (refRight d.1 A5 c5 A6 c6 wc (Kd.F_now HF5.out.1) (Kd.F_now HF6.out.1) HF6.out.2)
        obtain ⟨r0, r1, r2, r3, r4, r5, r6⟩ := rcF HR.out.2.2.1
        cases hrk : recOk d.1 with
        | false =>
          rw [hrk] at HC
          have HNO := Aside0.mk (show uOk bs = false by rw [HOK.out, hb, hrk, Bool.and_false, Bool.and_false])
          clear hrk hb hlt hlz
          go_wp2_with (go_at_call 49; refine HC.out.mono ?_; rintro e w7 ⟨rfl, hd⟩; have HR7 := Aside0.mk (HR.out.below hd); have HXe := Aside0.mk HR7.out.1; have HBe := Aside0.mk HR7.out.base; clear hd r0 r1 r2 r3 r4 r5 r6; obtain ⟨⟨e0, e1, e2, e3, e4, e5, e6⟩, f0, f1, f2, f3, f4, f5, f6⟩ := boxF HXe.out)
          obtain ⟨w9, hw9⟩ : ∃ w9, w9 = (((((((w7.setCell ⟨W.heap.size, 0, none⟩ (.int .i64 0)).setCell ⟨W.heap.size, 1, none⟩ (.int .u64 0)).setCell ⟨W.heap.size, 2, none⟩ (.int .u64 0)).setCell ⟨W.heap.size, 3, none⟩ (.int .i64 0)).setCell ⟨W.heap.size, 4, none⟩ (.int .i64 0)).setCell ⟨W.heap.size, 5, none⟩ (.slice none 0 0)).setCell ⟨W.heap.size, 6, none⟩ (.slice none 0 0)) := ⟨_, rfl⟩
          rw [← hw9]
          obtain ⟨hX9, hf9⟩ := box7 HXe.out hw9
          clear e0 e1 e2 e3 e4 e5 e6
          have e0 : w9.cell? ⟨W.heap.size, 0, none⟩ = some (.int .i64 0) := (blk_cell hX9 0).trans rfl
          have e1 : w9.cell? ⟨W.heap.size, 1, none⟩ = some (.int .u64 0) := (blk_cell hX9 1).trans rfl
          have e2 : w9.cell? ⟨W.heap.size, 2, none⟩ = some (.int .u64 0) := (blk_cell hX9 2).trans rfl
          have e3 : w9.cell? ⟨W.heap.size, 3, none⟩ = some (.int .i64 0) := (blk_cell hX9 3).trans rfl
          have e4 : w9.cell? ⟨W.heap.size, 4, none⟩ = some (.int .i64 0) := (blk_cell hX9 4).trans rfl
          have e5 : w9.cell? ⟨W.heap.size, 5, none⟩ = some (.slice none 0 0) := (blk_cell hX9 5).trans rfl
          have e6 : w9.cell? ⟨W.heap.size, 6, none⟩ = some (.slice none 0 0) := (blk_cell hX9 6).trans rfl
          refine bodyPost_ret (by simp [results, Try.results47, go_sem, e0, e1, e2, e3, e4, e5, e6]; try rfl) rfl ?_
          exact ⟨fun h => absurd h (by rw [HNO.out]; decide), fun _ => rfl, below9 HBe.out hf9⟩
        | true =>
          rw [hrk] at HC
          have HYES := Aside0.mk (show uOk bs = true by rw [HOK.out, hb, hrk, decide_eq_true (by omega)]; rfl)
          clear hrk hb hlt hlz
          go_wp2_with (go_at_call 49; refine HC.out.mono ?_; rintro e w7 ⟨rfl, hd⟩; have HB7 := Aside0.mk hd; have HR7 := Aside0.mk (HR.out.below hd); have HXe := Aside0.mk HR7.out.1; have HBe := Aside0.mk HR7.out.base; clear hd r0 r1 r2 r3 r4 r5 r6; obtain ⟨r0, r1, r2, r3, r4, r5, r6⟩ := rcF HR7.out.2.2.1; obtain ⟨⟨e0, e1, e2, e3, e4, e5, e6⟩, f0, f1, f2, f3, f4, f5, f6⟩ := boxF HXe.out)
          obtain ⟨w9, hw9⟩ : ∃ w9, w9 = (((((((w7.setCell ⟨W.heap.size, 0, none⟩ (.int .i64 d.1.f0)).setCell ⟨W.heap.size, 1, none⟩ (.int .u64 d.1.f1)).setCell ⟨W.heap.size, 2, none⟩ (.int .u64 d.1.f2)).setCell ⟨W.heap.size, 3, none⟩ (.int .i64 d.1.f3)).setCell ⟨W.heap.size, 4, none⟩ (.int .i64 d.1.f4)).setCell ⟨W.heap.size, 5, none⟩ (.slice A5 d.1.f5.length c5)).setCell ⟨W.heap.size, 6, none⟩ (.slice A6 d.1.f6.length c6)) := ⟨_, rfl⟩
          rw [← hw9]
          obtain ⟨hX9, hf9⟩ := box7 HXe.out hw9
          clear e0 e1 e2 e3 e4 e5 e6
          have e0 : w9.cell? ⟨W.heap.size, 0, none⟩ = some (.int .i64 d.1.f0) := (blk_cell hX9 0).trans rfl
          have e1 : w9.cell? ⟨W.heap.size, 1, none⟩ = some (.int .u64 d.1.f1) := (blk_cell hX9 1).trans rfl
          have e2 : w9.cell? ⟨W.heap.size, 2, none⟩ = some (.int .u64 d.1.f2) := (blk_cell hX9 2).trans rfl
          have e3 : w9.cell? ⟨W.heap.size, 3, none⟩ = some (.int .i64 d.1.f3) := (blk_cell hX9 3).trans rfl
          have e4 : w9.cell? ⟨W.heap.size, 4, none⟩ = some (.int .i64 d.1.f4) := (blk_cell hX9 4).trans rfl
          have e5 : w9.cell? ⟨W.heap.size, 5, none⟩ = some (.slice A5 d.1.f5.length c5) := (blk_cell hX9 5).trans rfl
          have e6 : w9.cell? ⟨W.heap.size, 6, none⟩ = some (.slice A6 d.1.f6.length c6) := (blk_cell hX9 6).trans rfl
          refine bodyPost_ret (by simp [results, Try.results47, go_sem, e0, e1, e2, e3, e4, e5, e6]; try rfl) rfl ?_
          exact ⟨fun _ => ⟨A5, c5, A6, c6, rfl, ⟨Kd.F_step (Kd.F_below HF5.out.1 HB7.out) (fun k hk hlt => hf9.block hlt (fun e => by omega)), HF5.out.2⟩, ⟨Kd.F_step (Kd.F_below HF6.out.1 HB7.out) (fun k hk hlt => hf9.block hlt (fun e => by omega)), HF6.out.2⟩⟩, fun h => absurd h (by rw [HYES.out]; decide), below9 HBe.out hf9⟩
  clear hK1
  by_cases k1 : k = 1
  · subst k1
    have hdd := HD.out
    rw [if_pos rfl] at hdd
    have HDD := Aside0.mk hdd
    clear hdd HD
    have HNa := Aside0.mk (refNum W w4 u t 8 (by decide) HR4.out.2.1)
    have HBY := Aside0.mk (show ∀ x ∈ (uNum 8 t).2.1, isB x from uNum_by HR4.out.by)
    have HNb := Aside0.mk (fun W2 h => refNum W W2 u (uNum 8 t).2 1 (by decide) h)
    obtain ⟨ha2, hb2⟩ := uNum_one HBY.out
    have HTL2 := Aside0.mk (Nat.le_trans (uNum_len 1 (uNum 8 t).2) (Nat.le_trans (uNum_len 8 t) HTL.out))
    clear HBY
    generalize (uNum 1 (uNum 8 t).2).1 = nz at *
    generalize (uNum 1 (uNum 8 t).2).2 = t2 at *
    generalize (uNum 8 t).1 = n1 at *
    generalize (uNum 8 t).2 = t1 at *
    obtain ⟨n, rfl⟩ : ∃ n : Nat, nz = (n : Int) := ⟨nz.toNat, by omega⟩
    rw [Int.toNat_natCast] at HDD
    obtain ⟨fin, hfin⟩ : ∃ fin, fin = uMany uWrite n t2 := ⟨_, rfl⟩
    rw [← hfin] at HDD
    have HFIN := Aside0.mk hfin
    clear hfin
    have HN256 := Aside0.mk (show n < 256 by omega)
    go_wp2_with fail
    refine HNa.out.mono ?_
    rintro e w5 ⟨rfl, hi, hf⟩
    have HR5 := Aside0.mk (HR4.out.num hf hi); have hfz := hf.size; clear hi hf; have f1 : w5.frozen? ⟨r, 1, none⟩ = false := blk_frozen HR5.out.2.2.1 1; have q1 : w5.cell? ⟨r, 1, none⟩ = some (.int .u64 0) := (blk_cell HR5.out.2.2.1 1).trans rfl; have HR6 := Aside0.mk (HR5.out.set 1 (.int .u64 n1) (#[.int .i64 1, .int .u64 n1, .int .u64 0, .int .i64 0, .int .i64 0, .slice none 0 0, .slice none 0 0]) rfl); have HL6 := Aside0.mk (Nat.lt_of_lt_of_le HRL.out hfz)
    go_wp2_with fail
    refine (HNb.out _ HR6.out.2.1).mono ?_
    rintro e w7 ⟨rfl, hi, hf⟩
    have HR7 := Aside0.mk (HR6.out.num hf hi); have hfz2 := hf.size; clear hi hf; have HL7 := Aside0.mk (show r < w7.heap.size from Nat.lt_of_lt_of_le HL6.out (by simpa using hfz2))
    go_wp2_with fail
    clear q0 f1 q1
    go_loopg [6, 7, 24] n (fun gg _ _ s24 wr => ∃ (kk : Nat) (xs : List (Wr)) (s : US) (vr : Value), kk ≤ n ∧ n - kk ≤ gg ∧ s24 = .int .u64 kk ∧ Aside0 (xs.length ≤ kk) ∧ Aside0 (s.1.length ≤ 1000) ∧ Aside0 (fin = (xs ++ (uMany uWrite (n - kk) s).1, (uMany uWrite (n - kk) s).2)) ∧ Aside0 (Kd.N kW 87 wr w7.heap.size (fun k => w7.heap.size ≤ k) vr xs) ∧ Aside0 (RX W wr u r s #[.int .i64 1, .int .u64 n1, .int .u64 0, .int .i64 0, .int .i64 0, vr, .slice none 0 0]) ∧ Aside0 (w7.heap.size ≤ wr.heap.size))
    case atStart => exact ⟨0, [], t2, .slice none 0 0, by omega, by omega, rfl, ⟨Nat.zero_le _⟩, HTL2, ⟨by rw [HFIN.out]; simp⟩, ⟨Kd.N_nil _ _ _ _ _⟩, HR7, ⟨Nat.le_refl _⟩⟩
    case round =>
      obtain ⟨kk, xs, s, vr, hkk, hg, rfl, HXL, HTLs, HFK, HOk, HRk, HSk⟩ := hrel
      obtain ⟨wo, rfl⟩ : ∃ wo, wo = wr := ⟨_, rfl⟩
      obtain ⟨Ay, cy, y0, y1, fy⟩ := HRk.out.ucells
      by_cases hlt : kk < n
      · have hltz : (kk : Int) < (n : Int) := by omega
        cases hb : s.2 with
        | true =>
          rw [hb] at y1
          have h := uMany_stop HFK.out (.inr hb)
          clear HFK HFIN
          obtain ⟨Ax, cx, hvx⟩ := Kd.N_slice HOk.out
          subst hvx
          subst h
          clear hb
          go_wp2_with fail
          exact tail _ _ _ _ _ _ _ _ _ _ _ _ _ _ _ _ _ _ _ _ _ _ _ _ _ _ _ _ _ _ _ _ _ _ _ _ _ _ _ _ _ _ _ _ _ _ _ _ _ _ _ _ _ _ _ _ _ _ _ _ _ _ _ _ _ _ _ _ _ _ _ _ _ _ _ _ _ _ _ _ _ _ _ _ _ _ _ _ _ _ _ _ _ _ _ _ _ _ _ _ _ _ _ _ _ _ _ _ _ _ _ _ _ _ _ _ _ _ Ax cx none 0 rfl ⟨by rw [HDD.out]; exact HRk.out⟩ ⟨by rw [HDD.out]; exact ⟨Kd.F_mono (Kd.N_F HOk.out) (fun k hk => by have h1 := HRk.out.2.2.2; have h2 := HL7.out; omega), (Kd.N_reads' HOk.out).2.1⟩⟩ ⟨by rw [HDD.out]; exact ⟨Kd.F_nil _ _ _, Nat.zero_le _⟩⟩
        | false =>
          rw [hb] at y1
          have HFN := Aside0.mk (uMany_step HFK.out hlt hb)
          obtain ⟨rv, hrv⟩ : ∃ rv, rv = uWrite s := ⟨_, rfl⟩
          rw [← hrv] at HFN
          unfold uWrite at hrv
          have HNc := Aside0.mk (refNum W wo u s 1 (by decide) HRk.out.2.1)
          have HNd := Aside0.mk (fun W2 h => refNum W W2 u (uNum 1 s).2 8 (by decide) h)
          have HNe := Aside0.mk (fun W2 h => refNum W W2 u (uNum 8 (uNum 1 s).2).2 1 (by decide) h)
          have HTLv := Aside0.mk (Nat.le_trans (uNum_len 1 (uNum 8 (uNum 1 s).2).2) (Nat.le_trans (uNum_len 8 (uNum 1 s).2) (Nat.le_trans (uNum_len 1 s) HTLs.out)))
          have HBY1 := Aside0.mk (show ∀ x ∈ (uNum 1 s).2.1, isB x from uNum_by HRk.out.by)
          have HBY2 := Aside0.mk (show ∀ x ∈ (uNum 8 (uNum 1 s).2).2.1, isB x from uNum_by HBY1.out)
          obtain ⟨hac, hbc⟩ := uNum_one HRk.out.by
          obtain ⟨hae, hbe⟩ := uNum_one HBY2.out
          clear HBY1 HBY2
          generalize (uNum 1 (uNum 8 (uNum 1 s).2).2).1 = m3 at *
          generalize (uNum 1 (uNum 8 (uNum 1 s).2).2).2 = s3 at *
          generalize (uNum 8 (uNum 1 s).2).1 = m2 at *
          generalize (uNum 8 (uNum 1 s).2).2 = s2 at *
          generalize (uNum 1 s).1 = m1 at *
          generalize (uNum 1 s).2 = s1 at *
          have HRV := Aside0.mk hrv
          have hx3 := HXL.out
          have hn256 := HN256.out
          clear hrv hb HFK
          go_upto_region 9 with (fail)
          go_wp2_with fail
          refine HNc.out.mono ?_
          rintro e v5 ⟨rfl, hi, hf⟩
          obtain ⟨B, hB⟩ : ∃ B, B = v5.heap.size := ⟨_, rfl⟩
          obtain ⟨v6, hv6⟩ : ∃ v6, v6 = v5.alloc (.cells #[.int .i64 m1, .int .u64 0, .bool false, .slice none 0 0] 87) := ⟨_, rfl⟩
          have hb56 : Below v5.heap.size v5 v6 := by rw [hv6]; exact below_alloc (Below.refl _ _) _
          have HBO := Aside0.mk (show wo.heap.size ≤ B by rw [hB]; exact hf.size)
          have HRB := Aside0.mk (show r < B from Nat.lt_of_lt_of_le HL7.out (Nat.le_trans HSk.out HBO.out))
          have HF6 := Aside0.mk (((hf.mono (S' := fun k => k = u ∨ wo.heap.size ≤ k) (fun k h => .inl h))).below hb56)
          have HR6' := Aside0.mk ((HRk.out.num hf hi).below hb56)
          have HX6 := Aside0.mk (show v6.heap[B]? = some (.cells #[.int .i64 m1, .int .u64 0, .bool false, .slice none 0 0] 87 (0, 0)) by rw [hv6, hB]; exact heap_alloc_new v5 _)
          go_upto_region 10 with (fail)
          rw [← hv6, ← hB]
          have HNd6 := Aside0.mk (HNd.out v6 HR6'.out.2.1)
          clear hB hv6 hb56 hi hf HNc HNd y0 y1 fy
          go_wp2_with fail
          refine HNd6.out.mono ?_
          rintro e v7 ⟨rfl, hi, hf⟩
          have hX7 := hf.blk HX6.out (fun e => by have h1 := HR6'.out.2.2.2; have h2 := HRB.out; omega)
          have p1 : v7.cell? ⟨B, 1, none⟩ = some (.int .u64 0) := (blk_cell hX7 1).trans rfl
          have g1 : v7.frozen? ⟨B, 1, none⟩ = false := blk_frozen hX7 1
          obtain ⟨v8, hv8⟩ : ∃ v8, v8 = v7.setCell ⟨B, 1, none⟩ (.int .u64 m2) := ⟨_, rfl⟩
          have hf78 : Fr (· = B) v7 v8 := by rw [hv8]; exact (Fr.refl (· = B) v7).setCell (p := ⟨B, 1, none⟩) (.inl rfl) _
          have HX8 := Aside0.mk (show v8.heap[B]? = some (.cells #[.int .i64 m1, .int .u64 m2, .bool false, .slice none 0 0] 87 (0, 0)) by rw [hv8]; exact blk_put hX7 1 _ rfl)
          have HR8' := Aside0.mk ((HR6'.out.num hf hi).off hf78 HRB.out)
          have HF8 := Aside0.mk ((HF6.out.trans (hf.mono (fun k h => .inl h))).trans (hf78.mono (fun k h => .inr (by rw [h]; exact HBO.out))))
          go_upto_region 11 with (fail)
          rw [← hv8]
          have HNe8 := Aside0.mk (HNe.out v8 HR8'.out.2.1)
          clear p1 g1 hX7 hv8 hf78 hi hf HNd6 HNe HR6' HX6 HF6
          go_wp2_with fail
          refine HNe8.out.mono ?_
          rintro e v9 ⟨rfl, hi, hf⟩
          have hX9 := hf.blk HX8.out (fun e => by have h1 := HR8'.out.2.2.2; have h2 := HRB.out; omega)
          have HX9 := Aside0.mk hX9
          have HR9 := Aside0.mk (HR8'.out.num hf hi)
          have HF9 := Aside0.mk (HF8.out.trans (hf.mono (fun k h => .inl h)))
          have p2 : v9.cell? ⟨B, 2, none⟩ = some (.bool false) := (blk_cell hX9 2).trans rfl
          have g2 : v9.frozen? ⟨B, 2, none⟩ = false := blk_frozen hX9 2
          clear hX9 hi hf HNe8 HR8' HX8 HF8
          by_cases z0 : m3 = 0
          · subst z0
            rw [if_pos rfl] at HRV
            have h := HRV.out
            subst h
            have HV := Aside0.mk (fun W2 h => refVec W W2 u s3 h HTLv.out)
            have HTn := Aside0.mk (Nat.le_trans (uVec_len s3) HTLv.out)
            clear HRV HTLv
            generalize (uVec s3).1 = x3 at *
            generalize (uVec s3).2 = s4 at *
            obtain ⟨va, hva⟩ : ∃ va, va = v9.setCell ⟨B, 2, none⟩ (.bool false) := ⟨_, rfl⟩
            have hfa : Fr (· = B) v9 va := by rw [hva]; exact (Fr.refl (· = B) v9).setCell (p := ⟨B, 2, none⟩) (.inl rfl) _
            have HXa := Aside0.mk (show va.heap[B]? = some (.cells #[.int .i64 m1, .int .u64 m2, .bool false, .slice none 0 0] 87 (0, 0)) by rw [hva]; exact blk_put HX9.out 2 _ rfl)
            have HRa := Aside0.mk (HR9.out.off hfa HRB.out)
            have HFa := Aside0.mk (HF9.out.trans (hfa.mono (fun k h => .inr (by rw [h]; exact HBO.out))))
            go_upto_region 13 with (fail)
            rw [← hva]
            clear p2 g2 hva hfa HR9 HX9 HF9
            have HVa := Aside0.mk (HV.out va HRa.out.2.1)
            clear HV
            go_upto_region 14 with (fail)
            go_wp2_with fail
            refine HVa.out.mono ?_
            rintro e vb ⟨vv, rfl, ho, hi, hf⟩
            obtain ⟨A3, c3, hv3⟩ := Kd.R_slice ho
            subst hv3
            have hXb := hf.blk HXa.out (fun e => by have h1 := HRa.out.2.2.2; have h2 := HRB.out; omega)
            have p3 : vb.cell? ⟨B, 3, none⟩ = some (.slice none 0 0) := (blk_cell hXb 3).trans rfl
            have g3 : vb.frozen? ⟨B, 3, none⟩ = false := blk_frozen hXb 3
            have HBv := Aside0.mk (blk_lt HXa.out)
            obtain ⟨vc, hvc⟩ : ∃ vc, vc = vb.setCell ⟨B, 3, none⟩ (.slice A3 x3.length c3) := ⟨_, rfl⟩
            have hfc : Fr (· = B) vb vc := by rw [hvc]; exact (Fr.refl (· = B) vb).setCell (p := ⟨B, 3, none⟩) (.inl rfl) _
            have HXc := Aside0.mk (show vc.heap[B]? = some (.cells #[.int .i64 m1, .int .u64 m2, .bool false, .slice A3 x3.length c3] 87 (0, 0)) by rw [hvc]; exact blk_put hXb 3 _ rfl)
            have HRc := Aside0.mk ((HRa.out.num hf hi).off hfc HRB.out)
            have HFc := Aside0.mk ((HFa.out.trans (hf.mono (fun k h => .inl h))).trans (hfc.mono (fun k h => .inr (by rw [h]; exact HBO.out))))
            have HRO := Aside0.mk (Kd.R_bound (show Kd.R (Kd.int .i32) 21 vc va.heap.size (fun _ => True) (.slice A3 x3.length c3) x3 by rw [hvc]; exact Kd.R_set ho hXb (by decide) 3 _))
            go_upto_region 15 with (fail)
            rw [← hvc]
            clear p3 g3 hXb hvc hfc hi hf ho HVa HRa HXa HFa
            have HOz := Aside0.mk (Kd.N_step HOk.out (fun k hk hlt => HFc.out.block hlt (fun e => by have h1 := HRk.out.2.2.2; have h2 := HL7.out; rcases e with e | e <;> omega)))
            have HLT := Aside0.mk (Kd.N_lt HOk.out)
            have HSz := Aside0.mk (HFc.out.size)
            have HSw := Aside0.mk (show w7.heap.size ≤ vc.heap.size from Nat.le_trans HSk.out HSz.out)
            have p0 : vc.cell? ⟨B, 0, none⟩ = some (.int .i64 m1) := (blk_cell HXc.out 0).trans rfl
            have p1 : vc.cell? ⟨B, 1, none⟩ = some (.int .u64 m2) := (blk_cell HXc.out 1).trans rfl
            have p2 : vc.cell? ⟨B, 2, none⟩ = some (.bool false) := (blk_cell HXc.out 2).trans rfl
            have p3 : vc.cell? ⟨B, 3, none⟩ = some (.slice A3 x3.length c3) := (blk_cell HXc.out 3).trans rfl
            have q5 : vc.cell? ⟨r, 5, none⟩ = some vr := (blk_cell HRc.out.2.2.1 5).trans rfl
            go_upto_region 17 with (fail)
            go_wp2_with ((with_reducible refine gate_builtin (b := .append) (xs := #[.tmp 53, .tmp 55]) rfl ?_); at_builtin; refine Kd.N_append kW (w0 := vc) w7.heap.size rfl (.tmp 53) (.tmp 55) 25 87 (.agg #[.int .i64 0, .int .u64 0, .bool false, .slice none 0 0]) 48 rfl Try.underlying25 P.info87 rfl (by decide) (by omega) vr xs (⟨m1, m2, false, x3⟩ : Wr) [.int .i64 m1, .int .u64 m2, .bool false, .slice A3 x3.length c3] (fun k => w7.heap.size ≤ k) _ rfl rfl (Kd.FK_of_M (P.k87_mkM _ _ _ (⟨m1, m2, false, x3⟩ : Wr) HRO.out)) (fun k hk => ⟨by have h1 := hk.2.1; have h2 := HSk.out; have h3 := HBO.out; have h4 := HBv.out; omega, fun e => by have h1 := hk.2.1; have h2 := HLT.out k e.symm; have h3 := HBO.out; have h4 := HBv.out; omega⟩) (fun k hk => by have h2 := HSw.out; omega) HOz.out (Below.refl _ _) HSw.out (by omega) ?_; intro vn wn ho hb hg6 hat; clear hg6 hat; obtain ⟨An, cn, hvn⟩ := Kd.N_slice ho; obtain ⟨ln, hln⟩ : ∃ ln : Nat, ln = (xs ++ [(⟨m1, m2, false, x3⟩ : Wr)]).length := ⟨_, rfl⟩; rw [← hln] at hvn; clear hln; subst hvn; have HRn := Aside0.mk (HRc.out.low hb HL7.out); have fr5 : wn.frozen? ⟨r, 5, none⟩ = false := blk_frozen HRn.out.2.2.1 5; have qr5 : wn.cell? ⟨r, 5, none⟩ = some vr := (blk_cell HRn.out.2.2.1 5).trans rfl; have HRm := Aside0.mk (HRn.out.set 5 (.slice An ln cn) (#[.int .i64 1, .int .u64 n1, .int .u64 0, .int .i64 0, .int .i64 0, .slice An ln cn, .slice none 0 0]) rfl); have HOm := Aside0.mk (Kd.N_far (p := ⟨r, 5, none⟩) ho (fun k hk e => by have h1 := HL7.out; simp only at e; omega) (.slice An ln cn)); have HSm := Aside0.mk (show w7.heap.size ≤ (wn.setCell ⟨r, 5, none⟩ (.slice An ln cn)).heap.size by have h1 := hb.size; have h2 := HSw.out; simpa using Nat.le_trans h2 h1); clear ho hb p0 p1 p2 p3 q5)
            go_roundg (n - (kk + 1))
            case measure => omega
            case rel => exact ⟨kk + 1, xs ++ [(⟨m1, m2, false, x3⟩ : Wr)], s4, .slice An ln cn, by omega, by omega, by go_num, ⟨by rw [List.length_append]; simpa using hx3⟩, HTn, HFN, HOm, HRm, HSm⟩
          · have z0b : (m3 == 0) = false := by rw [beq_eq_false_iff_ne]; exact z0
            rw [if_neg z0] at HRV
            by_cases z1 : m3 = 1
            · subst z1
              rw [if_pos rfl] at HRV
              have h := HRV.out
              subst h
              have HTn := HTLv
              clear HRV z0
              obtain ⟨va, hva⟩ : ∃ va, va = v9.setCell ⟨B, 2, none⟩ (.bool true) := ⟨_, rfl⟩
              have hfa : Fr (· = B) v9 va := by rw [hva]; exact (Fr.refl (· = B) v9).setCell (p := ⟨B, 2, none⟩) (.inl rfl) _
              have HXa := Aside0.mk (show va.heap[B]? = some (.cells #[.int .i64 m1, .int .u64 m2, .bool true, .slice none 0 0] 87 (0, 0)) by rw [hva]; exact blk_put HX9.out 2 _ rfl)
              have HRa := Aside0.mk (HR9.out.off hfa HRB.out)
              have HFa := Aside0.mk (HF9.out.trans (hfa.mono (fun k h => .inr (by rw [h]; exact HBO.out))))
              go_upto_region 13 with (fail)
              rw [← hva]
              clear p2 g2 hva hfa HR9 HX9 HF9
              have HROn := Aside0.mk (Kd.R_bound (Kd.R_nil (Kd.int .i32) 21 va va.heap.size (fun _ => True)))
              have HOz := Aside0.mk (Kd.N_step HOk.out (fun k hk hlt => HFa.out.block hlt (fun e => by have h1 := HRk.out.2.2.2; have h2 := HL7.out; rcases e with e | e <;> omega)))
              have HLT := Aside0.mk (Kd.N_lt HOk.out)
              have HSz := Aside0.mk (HFa.out.size)
              have HSw := Aside0.mk (show w7.heap.size ≤ va.heap.size from Nat.le_trans HSk.out HSz.out)
              have p0 : va.cell? ⟨B, 0, none⟩ = some (.int .i64 m1) := (blk_cell HXa.out 0).trans rfl
              have p1 : va.cell? ⟨B, 1, none⟩ = some (.int .u64 m2) := (blk_cell HXa.out 1).trans rfl
              have p2 : va.cell? ⟨B, 2, none⟩ = some (.bool true) := (blk_cell HXa.out 2).trans rfl
              have p3 : va.cell? ⟨B, 3, none⟩ = some (.slice none 0 0) := (blk_cell HXa.out 3).trans rfl
              have q5 : va.cell? ⟨r, 5, none⟩ = some vr := (blk_cell HRa.out.2.2.1 5).trans rfl
              go_upto_region 17 with (fail)
              go_wp2_with ((with_reducible refine gate_builtin (b := .append) (xs := #[.tmp 53, .tmp 55]) rfl ?_); at_builtin; refine Kd.N_append kW (w0 := va) w7.heap.size rfl (.tmp 53) (.tmp 55) 25 87 (.agg #[.int .i64 0, .int .u64 0, .bool false, .slice none 0 0]) 48 rfl Try.underlying25 P.info87 rfl (by decide) (by omega) vr xs (⟨m1, m2, true, ([] : List Int)⟩ : Wr) [.int .i64 m1, .int .u64 m2, .bool true, .slice none ([] : List Int).length 0] (fun k => w7.heap.size ≤ k) _ rfl rfl (Kd.FK_of_M (P.k87_mkM _ _ _ (⟨m1, m2, true, ([] : List Int)⟩ : Wr) HROn.out)) (fun k hk => by have h1 := hk.2.1; have h2 := hk.2.2; omega) (fun k hk => by have h2 := HSw.out; omega) HOz.out (Below.refl _ _) HSw.out (by omega) ?_; intro vn wn ho hb hg6 hat; clear hg6 hat; obtain ⟨An, cn, hvn⟩ := Kd.N_slice ho; obtain ⟨ln, hln⟩ : ∃ ln : Nat, ln = (xs ++ [(⟨m1, m2, true, ([] : List Int)⟩ : Wr)]).length := ⟨_, rfl⟩; rw [← hln] at hvn; clear hln; subst hvn; have HRn := Aside0.mk (HRa.out.low hb HL7.out); have fr5 : wn.frozen? ⟨r, 5, none⟩ = false := blk_frozen HRn.out.2.2.1 5; have qr5 : wn.cell? ⟨r, 5, none⟩ = some vr := (blk_cell HRn.out.2.2.1 5).trans rfl; have HRm := Aside0.mk (HRn.out.set 5 (.slice An ln cn) (#[.int .i64 1, .int .u64 n1, .int .u64 0, .int .i64 0, .int .i64 0, .slice An ln cn, .slice none 0 0]) rfl); have HOm := Aside0.mk (Kd.N_far (p := ⟨r, 5, none⟩) ho (fun k hk e => by have h1 := HL7.out; simp only at e; omega) (.slice An ln cn)); have HSm := Aside0.mk (show w7.heap.size ≤ (wn.setCell ⟨r, 5, none⟩ (.slice An ln cn)).heap.size by have h1 := hb.size; have h2 := HSw.out; simpa using Nat.le_trans h2 h1); clear ho hb p0 p1 p2 p3 q5)
              go_roundg (n - (kk + 1))
              case measure => omega
              case rel => exact ⟨kk + 1, xs ++ [(⟨m1, m2, true, ([] : List Int)⟩ : Wr)], s3, .slice An ln cn, by omega, by omega, by go_num, ⟨by rw [List.length_append]; simpa using hx3⟩, HTn, HFN, HOm, HRm, HSm⟩
            · rw [if_neg z1] at HRV
              have h := HRV.out
              subst h
              have HTn := HTLv
              have z1b : (m3 == 1) = false := by rw [beq_eq_false_iff_ne]; exact z1
              have hgt : m3 > 1 := by omega
              clear HRV
              obtain ⟨va, hva⟩ : ∃ va, va = v9.setCell ⟨B, 2, none⟩ (.bool false) := ⟨_, rfl⟩
              have hfa : Fr (· = B) v9 va := by rw [hva]; exact (Fr.refl (· = B) v9).setCell (p := ⟨B, 2, none⟩) (.inl rfl) _
              have HXa := Aside0.mk (show va.heap[B]? = some (.cells #[.int .i64 m1, .int .u64 m2, .bool false, .slice none 0 0] 87 (0, 0)) by rw [hva]; exact blk_put HX9.out 2 _ rfl)
              have HRa := Aside0.mk (HR9.out.off hfa HRB.out)
              have HFa := Aside0.mk (HF9.out.trans (hfa.mono (fun k h => .inr (by rw [h]; exact HBO.out))))
              go_upto_region 13 with (fail)
              rw [← hva]
              clear p2 g2 hva hfa HR9 HX9 HF9
              obtain ⟨Az, cz, y0, y1, fy⟩ := HRa.out.ucells
              have HXb := Aside0.mk (blk_far HXa.out (p := ⟨u, 1, none⟩) (show B ≠ u by have h1 := HRa.out.2.2.2; have h2 := HRB.out; omega) (.bool true))
              have HRb := Aside0.mk HRa.out.bad
              have HFb := Aside0.mk (HFa.out.setCell (p := ⟨u, 1, none⟩) (.inl (.inl rfl)) (.bool true))
              obtain ⟨vb, hvb⟩ : ∃ vb, vb = va.setCell ⟨u, 1, none⟩ (.bool true) := ⟨_, rfl⟩
              rw [← hvb] at HXb HRb HFb
              have HROn := Aside0.mk (Kd.R_bound (Kd.R_nil (Kd.int .i32) 21 vb vb.heap.size (fun _ => True)))
              go_upto_region 17 with (fail)
              rw [← hvb]
              clear y0 y1 fy hvb HXa HRa HFa z0 z1
              have HOz := Aside0.mk (Kd.N_step HOk.out (fun k hk hlt => HFb.out.block hlt (fun e => by have h1 := HRk.out.2.2.2; have h2 := HL7.out; rcases e with e | e <;> omega)))
              have HLT := Aside0.mk (Kd.N_lt HOk.out)
              have HSz := Aside0.mk (HFb.out.size)
              have HSw := Aside0.mk (show w7.heap.size ≤ vb.heap.size from Nat.le_trans HSk.out HSz.out)
              have p0 : vb.cell? ⟨B, 0, none⟩ = some (.int .i64 m1) := (blk_cell HXb.out 0).trans rfl
              have p1 : vb.cell? ⟨B, 1, none⟩ = some (.int .u64 m2) := (blk_cell HXb.out 1).trans rfl
              have p2 : vb.cell? ⟨B, 2, none⟩ = some (.bool false) := (blk_cell HXb.out 2).trans rfl
              have p3 : vb.cell? ⟨B, 3, none⟩ = some (.slice none 0 0) := (blk_cell HXb.out 3).trans rfl
              have q5 : vb.cell? ⟨r, 5, none⟩ = some vr := (blk_cell HRb.out.2.2.1 5).trans rfl
              go_wp2_with ((with_reducible refine gate_builtin (b := .append) (xs := #[.tmp 53, .tmp 55]) rfl ?_); at_builtin; refine Kd.N_append kW (w0 := vb) w7.heap.size rfl (.tmp 53) (.tmp 55) 25 87 (.agg #[.int .i64 0, .int .u64 0, .bool false, .slice none 0 0]) 48 rfl Try.underlying25 P.info87 rfl (by decide) (by omega) vr xs (⟨m1, m2, false, ([] : List Int)⟩ : Wr) [.int .i64 m1, .int .u64 m2, .bool false, .slice none ([] : List Int).length 0] (fun k => w7.heap.size ≤ k) _ rfl rfl (Kd.FK_of_M (P.k87_mkM _ _ _ (⟨m1, m2, false, ([] : List Int)⟩ : Wr) HROn.out)) (fun k hk => by have h1 := hk.2.1; have h2 := hk.2.2; omega) (fun k hk => by have h2 := HSw.out; omega) HOz.out (Below.refl _ _) HSw.out (by omega) ?_; intro vn wn ho hb hg6 hat; clear hg6 hat; obtain ⟨An, cn, hvn⟩ := Kd.N_slice ho; obtain ⟨ln, hln⟩ : ∃ ln : Nat, ln = (xs ++ [(⟨m1, m2, false, ([] : List Int)⟩ : Wr)]).length := ⟨_, rfl⟩; rw [← hln] at hvn; clear hln; subst hvn; have HRn := Aside0.mk (HRb.out.low hb HL7.out); have fr5 : wn.frozen? ⟨r, 5, none⟩ = false := blk_frozen HRn.out.2.2.1 5; have qr5 : wn.cell? ⟨r, 5, none⟩ = some vr := (blk_cell HRn.out.2.2.1 5).trans rfl; have HRm := Aside0.mk (HRn.out.set 5 (.slice An ln cn) (#[.int .i64 1, .int .u64 n1, .int .u64 0, .int .i64 0, .int .i64 0, .slice An ln cn, .slice none 0 0]) rfl); have HOm := Aside0.mk (Kd.N_far (p := ⟨r, 5, none⟩) ho (fun k hk e => by have h1 := HL7.out; simp only at e; omega) (.slice An ln cn)); have HSm := Aside0.mk (show w7.heap.size ≤ (wn.setCell ⟨r, 5, none⟩ (.slice An ln cn)).heap.size by have h1 := hb.size; have h2 := HSw.out; simpa using Nat.le_trans h2 h1); clear ho hb p0 p1 p2 p3 q5)
              go_roundg (n - (kk + 1))
              case measure => omega
              case rel => exact ⟨kk + 1, xs ++ [(⟨m1, m2, false, ([] : List Int)⟩ : Wr)], (s3.1, true), .slice An ln cn, by omega, by omega, by go_num, ⟨by rw [List.length_append]; simpa using hx3⟩, HTn, HFN, HOm, HRm, HSm⟩
      · have hltz : ¬ (kk : Int) < (n : Int) := by omega
        have h := uMany_stop HFK.out (.inl (by omega))
        clear HFK HFIN
        obtain ⟨Ax, cx, hvx⟩ := Kd.N_slice HOk.out
        subst hvx
        subst h
        go_wp2_with fail
        exact tail _ _ _ _ _ _ _ _ _ _ _ _ _ _ _ _ _ _ _ _ _ _ _ _ _ _ _ _ _ _ _ _ _ _ _ _ _ _ _ _ _ _ _ _ _ _ _ _ _ _ _ _ _ _ _ _ _ _ _ _ _ _ _ _ _ _ _ _ _ _ _ _ _ _ _ _ _ _ _ _ _ _ _ _ _ _ _ _ _ _ _ _ _ _ _ _ _ _ _ _ _ _ _ _ _ _ _ _ _ _ _ _ _ _ _ _ _ _ Ax cx none 0 rfl ⟨by rw [HDD.out]; exact HRk.out⟩ ⟨by rw [HDD.out]; exact ⟨Kd.F_mono (Kd.N_F HOk.out) (fun k hk => by have h1 := HRk.out.2.2.2; have h2 := HL7.out; omega), (Kd.N_reads' HOk.out).2.1⟩⟩ ⟨by rw [HDD.out]; exact ⟨Kd.F_nil _ _ _, Nat.zero_le _⟩⟩
  by_cases k2 : k = 2
  · subst k2
    have hdd := HD.out
    rw [if_neg (by decide), if_pos rfl] at hdd
    have HDD := Aside0.mk hdd
    clear hdd HD
    have HNa := Aside0.mk (refNum W w4 u t 1 (by decide) HR4.out.2.1)
    obtain ⟨ha1, hb1⟩ := uNum_one HR4.out.by
    have HBY := Aside0.mk (show ∀ x ∈ (uNum 1 t).2.1, isB x from uNum_by HR4.out.by)
    have HNb := Aside0.mk (fun W2 h => refNum W W2 u (uNum 1 t).2 1 (by decide) h)
    obtain ⟨ha2, hb2⟩ := uNum_one HBY.out
    clear HBY
    generalize (uNum 1 (uNum 1 t).2).1 = n2 at *
    generalize (uNum 1 (uNum 1 t).2).2 = t2 at *
    generalize (uNum 1 t).1 = n1 at *
    generalize (uNum 1 t).2 = t1 at *
    go_wp2_with fail
    refine HNa.out.mono ?_
    rintro e w5 ⟨rfl, hi, hf⟩
    have HR5 := Aside0.mk (HR4.out.num hf hi); clear hi hf; have f3 : w5.frozen? ⟨r, 3, none⟩ = false := blk_frozen HR5.out.2.2.1 3; have q3 : w5.cell? ⟨r, 3, none⟩ = some (.int .i64 0) := (blk_cell HR5.out.2.2.1 3).trans rfl; have HR6 := Aside0.mk (HR5.out.set 3 (.int .i64 n1) (#[.int .i64 2, .int .u64 0, .int .u64 0, .int .i64 n1, .int .i64 0, .slice none 0 0, .slice none 0 0]) rfl)
    go_wp2_with fail
    refine (HNb.out _ HR6.out.2.1).mono ?_
    rintro e w7 ⟨rfl, hi, hf⟩
    have HR7 := Aside0.mk (HR6.out.num hf hi); clear hi hf; have f4 : w7.frozen? ⟨r, 4, none⟩ = false := blk_frozen HR7.out.2.2.1 4; have q4 : w7.cell? ⟨r, 4, none⟩ = some (.int .i64 0) := (blk_cell HR7.out.2.2.1 4).trans rfl; have HR8 := Aside0.mk (HR7.out.set 4 (.int .i64 n2) (#[.int .i64 2, .int .u64 0, .int .u64 0, .int .i64 n1, .int .i64 n2, .slice none 0 0, .slice none 0 0]) rfl)
    go_wp2_with fail
    exact tail _ _ _ _ _ _ _ _ _ _ _ _ _ _ _ _ _ _ _ _ _ _ _ _ _ _ _ _ _ _ _ _ _ _ _ _ _ _ _ _ _ _ _ _ _ _ _ _ _ _ _ _ _ _ _ _ _ _ _ _ _ _ _ _ _ _ _ _ _ _ _ _ _ _ _ _ _ _ _ _ _ _ _ _ _ _ _ _ _ _ _ _ _ _ _ _ _ _ _ _ _ _ _ _ _ _ _ _ _ _ _ _ _ _ _ _ _ _ none 0 none 0 rfl ⟨by rw [HDD.out]; exact HR8.out⟩ ⟨by rw [HDD.out]; exact ⟨Kd.F_nil _ _ _, Nat.zero_le _⟩⟩ ⟨by rw [HDD.out]; exact ⟨Kd.F_nil _ _ _, Nat.zero_le _⟩⟩
  by_cases k3 : k = 3
  · subst k3
    have hdd := HD.out
    rw [if_neg (by decide), if_neg (by decide), if_pos rfl] at hdd
    have HDD := Aside0.mk hdd
    clear hdd HD
    have HNa := Aside0.mk (refNum W w4 u t 1 (by decide) HR4.out.2.1)
    obtain ⟨ha1, hb1⟩ := uNum_one HR4.out.by
    generalize (uNum 1 t).1 = n1 at *
    generalize (uNum 1 t).2 = t1 at *
    go_wp2_with fail
    refine HNa.out.mono ?_
    rintro e w5 ⟨rfl, hi, hf⟩
    have HR5 := Aside0.mk (HR4.out.num hf hi); clear hi hf; have f3 : w5.frozen? ⟨r, 3, none⟩ = false := blk_frozen HR5.out.2.2.1 3; have q3 : w5.cell? ⟨r, 3, none⟩ = some (.int .i64 0) := (blk_cell HR5.out.2.2.1 3).trans rfl; have HR6 := Aside0.mk (HR5.out.set 3 (.int .i64 n1) (#[.int .i64 3, .int .u64 0, .int .u64 0, .int .i64 n1, .int .i64 0, .slice none 0 0, .slice none 0 0]) rfl)
    go_wp2_with fail
    exact tail _ _ _ _ _ _ _ _ _ _ _ _ _ _ _ _ _ _ _ _ _ _ _ _ _ _ _ _ _ _ _ _ _ _ _ _ _ _ _ _ _ _ _ _ _ _ _ _ _ _ _ _ _ _ _ _ _ _ _ _ _ _ _ _ _ _ _ _ _ _ _ _ _ _ _ _ _ _ _ _ _ _ _ _ _ _ _ _ _ _ _ _ _ _ _ _ _ _ _ _ _ _ _ _ _ _ _ _ _ _ _ _ _ _ _ _ _ _ none 0 none 0 rfl ⟨by rw [HDD.out]; exact HR6.out⟩ ⟨by rw [HDD.out]; exact ⟨Kd.F_nil _ _ _, Nat.zero_le _⟩⟩ ⟨by rw [HDD.out]; exact ⟨Kd.F_nil _ _ _, Nat.zero_le _⟩⟩
  by_cases k4 : k = 4
  · subst k4
    have hdd := HD.out
    rw [if_neg (by decide), if_neg (by decide), if_neg (by decide), if_pos rfl] at hdd
    have HDD := Aside0.mk hdd
    clear hdd HD
    have HNa := Aside0.mk (refNum W w4 u t 1 (by decide) HR4.out.2.1)
    obtain ⟨ha1, hb1⟩ := uNum_one HR4.out.by
    have HBY := Aside0.mk (show ∀ x ∈ (uNum 1 t).2.1, isB x from uNum_by HR4.out.by)
    have HNb := Aside0.mk (fun W2 h => refNum W W2 u (uNum 1 t).2 1 (by decide) h)
    obtain ⟨ha2, hb2⟩ := uNum_one HBY.out
    have HTL2 := Aside0.mk (Nat.le_trans (uNum_len 1 (uNum 1 t).2) (Nat.le_trans (uNum_len 1 t) HTL.out))
    clear HBY
    generalize (uNum 1 (uNum 1 t).2).1 = nz at *
    generalize (uNum 1 (uNum 1 t).2).2 = t2 at *
    generalize (uNum 1 t).1 = n1 at *
    generalize (uNum 1 t).2 = t1 at *
    obtain ⟨n, rfl⟩ : ∃ n : Nat, nz = (n : Int) := ⟨nz.toNat, by omega⟩
    rw [Int.toNat_natCast] at HDD
    obtain ⟨fin, hfin⟩ : ∃ fin, fin = uMany uVec n t2 := ⟨_, rfl⟩
    rw [← hfin] at HDD
    have HFIN := Aside0.mk hfin
    clear hfin
    have HN256 := Aside0.mk (show n < 256 by omega)
    go_wp2_with fail
    refine HNa.out.mono ?_
    rintro e w5 ⟨rfl, hi, hf⟩
    have HR5 := Aside0.mk (HR4.out.num hf hi); have hfz := hf.size; clear hi hf; have f3 : w5.frozen? ⟨r, 3, none⟩ = false := blk_frozen HR5.out.2.2.1 3; have q3 : w5.cell? ⟨r, 3, none⟩ = some (.int .i64 0) := (blk_cell HR5.out.2.2.1 3).trans rfl; have HR6 := Aside0.mk (HR5.out.set 3 (.int .i64 n1) (#[.int .i64 4, .int .u64 0, .int .u64 0, .int .i64 n1, .int .i64 0, .slice none 0 0, .slice none 0 0]) rfl); have HL6 := Aside0.mk (Nat.lt_of_lt_of_le HRL.out hfz)
    go_wp2_with fail
    refine (HNb.out _ HR6.out.2.1).mono ?_
    rintro e w7 ⟨rfl, hi, hf⟩
    have HR7 := Aside0.mk (HR6.out.num hf hi); have hfz2 := hf.size; clear hi hf; have HL7 := Aside0.mk (show r < w7.heap.size from Nat.lt_of_lt_of_le HL6.out (by simpa using hfz2))
    go_wp2_with fail
    clear q0 f3 q3
    go_loopg [83] n (fun gg s24 wr => ∃ (kk : Nat) (xs : List (List Int)) (s : US) (vr : Value), kk ≤ n ∧ n - kk ≤ gg ∧ s24 = .int .u64 kk ∧ Aside0 (xs.length ≤ kk) ∧ Aside0 (s.1.length ≤ 1000) ∧ Aside0 (fin = (xs ++ (uMany uVec (n - kk) s).1, (uMany uVec (n - kk) s).2)) ∧ Aside0 (Kd.N kV 40 wr w7.heap.size (fun k => w7.heap.size ≤ k) vr xs) ∧ Aside0 (RX W wr u r s #[.int .i64 4, .int .u64 0, .int .u64 0, .int .i64 n1, .int .i64 0, .slice none 0 0, vr]) ∧ Aside0 (w7.heap.size ≤ wr.heap.size))
    case atStart => exact ⟨0, [], t2, .slice none 0 0, by omega, by omega, rfl, ⟨Nat.zero_le _⟩, HTL2, ⟨by rw [HFIN.out]; simp⟩, ⟨Kd.N_nil _ _ _ _ _⟩, HR7, ⟨Nat.le_refl _⟩⟩
    case round =>
      obtain ⟨kk, xs, s, vr, hkk, hg, rfl, HXL, HTLs, HFK, HOk, HRk, HSk⟩ := hrel
      obtain ⟨wo, rfl⟩ : ∃ wo, wo = wr := ⟨_, rfl⟩
      obtain ⟨Ay, cy, y0, y1, fy⟩ := HRk.out.ucells
      by_cases hlt : kk < n
      · have hltz : (kk : Int) < (n : Int) := by omega
        cases hb : s.2 with
        | true =>
          rw [hb] at y1
          have h := uMany_stop HFK.out (.inr hb)
          clear HFK HFIN
          obtain ⟨Ax, cx, hvx⟩ := Kd.N_slice HOk.out
          subst hvx
          subst h
          clear hb
          go_wp2_with fail
          exact tail _ _ _ _ _ _ _ _ _ _ _ _ _ _ _ _ _ _ _ _ _ _ _ _ _ _ _ _ _ _ _ _ _ _ _ _ _ _ _ _ _ _ _ _ _ _ _ _ _ _ _ _ _ _ _ _ _ _ _ _ _ _ _ _ _ _ _ _ _ _ _ _ _ _ _ _ _ _ _ _ _ _ _ _ _ _ _ _ _ _ _ _ _ _ _ _ _ _ _ _ _ _ _ _ _ _ _ _ _ _ _ _ _ _ _ _ _ _ none 0 Ax cx rfl ⟨by rw [HDD.out]; exact HRk.out⟩ ⟨by rw [HDD.out]; exact ⟨Kd.F_nil _ _ _, Nat.zero_le _⟩⟩ ⟨by rw [HDD.out]; exact ⟨Kd.F_mono (Kd.N_F HOk.out) (fun k hk => by have h1 := HRk.out.2.2.2; have h2 := HL7.out; omega), (Kd.N_reads' HOk.out).2.1⟩⟩
        | false =>
          rw [hb] at y1
          have HFN := Aside0.mk (uMany_step HFK.out hlt hb)
          have HV := Aside0.mk (fun W2 (h : Below wo.heap.size wo W2) => refVec W W2 u s (HRk.out.2.1.below h) HTLs.out)
          have HTn := Aside0.mk (Nat.le_trans (uVec_len s) HTLs.out)
          generalize (uVec s).1 = x at *
          generalize (uVec s).2 = s4 at *
          have hx3 := HXL.out
          have hn256 := HN256.out
          have HLT := Aside0.mk (Kd.N_lt HOk.out)
          have q6 : wo.cell? ⟨r, 6, none⟩ = some vr := (blk_cell HRk.out.2.2.1 6).trans rfl
          clear hb HFK
          go_upto_region 29 with (fail)
          clear y0 y1 fy
          refine start_ (n := 8) (S := fun w' => w'.cell? ⟨r, 6, none⟩ = some vr) (ds := [7]) #[false, false, false, false, false, false, false, false] (by kernel_rfl) rfl rfl ((Gr.cell q6 ⟨wo.drew, below_drew1 (Below.refl _ _)⟩)) (fun hHeld => ?_)
          refine pure_ (i := 0) (N := some 89) (v := ?_) (a' := ?_) #[true, false, false, false, false, false, false, false] rfl rfl (by kernel_rfl) (fun _ _ _ h => h) (Or.inl ⟨by rfl, ?_⟩) ?_ ?_
          rotate_left
          · intro w'
            go_simp
            with_reducible rfl
          rotate_left
          · simp only [Act.put, List.setIfInBounds_toArray, List.set_cons_zero, List.set_cons_succ, i64_w, i32_w]
            rfl
          refine pure_ (i := 2) (N := some 91) (v := ?_) (a' := ?_) #[true, false, true, false, false, false, false, false] rfl rfl (by kernel_rfl) (fun _ _ _ h => h) (Or.inl ⟨by rfl, ?_⟩) ?_ ?_
          rotate_left
          · intro w'
            go_simp
            with_reducible rfl
          rotate_left
          · simp only [Act.put, List.setIfInBounds_toArray, List.set_cons_zero, List.set_cons_succ, i64_w, i32_w]
            rfl
          refine take_ (i := 1) (N := some 90) (v := ?_) (a' := ?_) #[true, true, true, false, false, false, false, false] rfl rfl (by kernel_rfl) (fun _ _ _ h => h) (Or.inl ⟨by rfl, ?_⟩) hHeld ?_ ?_
          rotate_left
          · intro w' s0
            go_simp
            with_reducible rfl
          rotate_left
          · simp only [Act.put, List.setIfInBounds_toArray, List.set_cons_zero, List.set_cons_succ, i64_w, i32_w]
            rfl
          refine one_ (i := 3) (N := some 92) #[true, true, true, true, false, false, false, false] rfl rfl (by kernel_rfl) (by decide) (fun K hK => ?_)
          refine goes_ Try.func83 (by kernel_rfl) rfl #[.pointer (some ⟨u, 0, none⟩)] (by rfl) rfl rfl (by simp only [List.map_toArray, List.map_cons, List.map_nil]; rfl) ?_
          with_reducible refine ((HV.out _ (by repeat (first | exact Below.refl _ _ | apply below_drew1 | apply pw_below_drewN)))).mono ?_
          rintro e vb ⟨vv, rfl, ho, hi, hf⟩
          have HRb := Aside0.mk (RX.num (RX.below HRk.out (by repeat (first | exact Below.refl _ _ | apply below_drew1 | apply pw_below_drewN))) hf hi)
          have HOb := Aside0.mk (Kd.N_step (Kd.N_below HOk.out (by repeat (first | exact Below.refl _ _ | apply below_drew1 | apply pw_below_drewN))) (fun k hk hlt => hf.block hlt (fun e => by have h1 := HRk.out.2.2.2; have h2 := HL7.out; omega)))
          have HRO := Aside0.mk (Kd.R_bound (show Kd.R (Kd.int .i32) 21 vb wo.heap.size (fun _ => True) vv x from ho))
          have HSb := Aside0.mk (show w7.heap.size ≤ vb.heap.size from Nat.le_trans HSk.out hf.size)
          obtain ⟨A3, c3, hv3⟩ := Kd.R_slice ho
          subst hv3
          have k6 : vb.cell? ⟨r, 6, none⟩ = some vr := (blk_cell HRb.out.2.2.1 6).trans rfl
          clear ho hi hf
          refine ⟨_, rfl, ?_⟩
          refine hK.out _ _ (k6) (fun hHeld => ?_)
          clear hK K
          refine norm_ (a' := ?_) ?_ ?_
          rotate_left
          · show Act.put _ (some 92) _ = _
            simp only [Act.put, List.setIfInBounds_toArray, List.set_cons_zero, List.set_cons_succ, i64_w, i32_w]
            rfl
          refine one_ (i := 4) (N := some 93) #[true, true, true, true, true, false, false, false] rfl rfl (by kernel_rfl) (by decide) (fun K hK => ?_)
          refine value_ (w1 := ?_) (v := ?_) (by rfl) rfl ?_ ?_
          rotate_left 2
          · go_simp
            constructor
            · rfl
            · rfl
          refine hK.out _ _ ((Gr.cell k6 ⟨_, below_alloc (Below.refl _ _) _⟩)) (fun hHeld => ?_)
          clear hK K
          refine norm_ (a' := ?_) ?_ ?_
          rotate_left
          · show Act.put _ (some 93) _ = _
            simp only [Act.put, List.setIfInBounds_toArray, List.set_cons_zero, List.set_cons_succ, i64_w, i32_w]
            rfl
          refine one_ (i := 5) (N := some 94) #[true, true, true, true, true, true, false, false] rfl rfl (by kernel_rfl) (by decide) (fun K hK => ?_)
          refine Kd.N_append_step kV (w0 := vb) w7.heap.size (by rfl) (.tmp 90) (.tmp 93) 26 40 (.slice none 0 0) 24 rfl Try.underlying26 P.info40 rfl (by decide) (by omega) vr xs x [.slice A3 x.length c3] (fun k => w7.heap.size ≤ k) _ rfl rfl (Kd.FK_of_M (Kd.M_row HRO.out)) (fun k hk => ⟨by have h1 := hk.2.1; have h2 := HSk.out; omega, fun e => by have h1 := hk.2.1; have h2 := HLT.out k e.symm; omega⟩) (fun k hk => by have h2 := HSb.out; omega) HOb.out (by repeat (first | exact Below.refl _ _ | apply below_drew1 | apply pw_below_drewN)) HSb.out (by omega) ?_
          intro vn wn ho hb hg6 hat
          clear hg6 hat
          obtain ⟨An, cn, hvn⟩ := Kd.N_slice ho
          obtain ⟨ln, hln⟩ : ∃ ln : Nat, ln = (xs ++ [x]).length := ⟨_, rfl⟩
          rw [← hln] at hvn
          clear hln
          subst hvn
          have HRn := Aside0.mk (HRb.out.low hb HL7.out)
          have fr6 : wn.frozen? ⟨r, 6, none⟩ = false := blk_frozen HRn.out.2.2.1 6
          have qr6 : wn.cell? ⟨r, 6, none⟩ = some vr := (blk_cell HRn.out.2.2.1 6).trans rfl
          have HRm := Aside0.mk (HRn.out.set 6 (.slice An ln cn) (#[.int .i64 4, .int .u64 0, .int .u64 0, .int .i64 n1, .int .i64 0, .slice none 0 0, .slice An ln cn]) rfl)
          have HOm := Aside0.mk (Kd.N_far (p := ⟨r, 6, none⟩) ho (fun k hk e => by have h1 := HL7.out; simp only at e; omega) (.slice An ln cn))
          have HSm := Aside0.mk (show w7.heap.size ≤ (wn.setCell ⟨r, 6, none⟩ (.slice An ln cn)).heap.size by have h1 := hb.size; have h2 := HSb.out; simpa using Nat.le_trans h2 h1)
          clear ho hb
          refine hK.out _ _ (qr6) (fun hHeld => ?_)
          clear hK K
          refine norm_ (a' := ?_) ?_ ?_
          rotate_left
          · show Act.put _ (some 94) _ = _
            simp only [Act.put, List.setIfInBounds_toArray, List.set_cons_zero, List.set_cons_succ, i64_w, i32_w]
            rfl
          refine pure_ (i := 6) (N := some 95) (v := ?_) (a' := ?_) #[true, true, true, true, true, true, true, false] rfl rfl (by kernel_rfl) (fun _ _ _ h => h) (Or.inl ⟨by rfl, ?_⟩) ?_ ?_
          rotate_left
          · intro w'
            go_simp
            with_reducible rfl
          rotate_left
          · simp only [Act.put, List.setIfInBounds_toArray, List.set_cons_zero, List.set_cons_succ, i64_w, i32_w]
            rfl
          refine last_ (i := 7) (N := none) #[true, true, true, true, true, true, true, true] rfl rfl (by kernel_rfl) (by decide) (fun K hK => ?_)
          refine skip_ (w1 := ?_) (by rfl) rfl ?_ ?_
          rotate_left
          · go_simp
            rfl
          refine hK.out _ _ ?_
          clear hK K
          refine done_ (by kernel_rfl) ?_
          go_wp2_with fail
          go_roundg (n - (kk + 1))
          case measure => omega
          case rel => exact ⟨kk + 1, xs ++ [x], s4, .slice An ln cn, by omega, by omega, by go_num, ⟨by rw [List.length_append]; simpa using hx3⟩, HTn, HFN, HOm, HRm, HSm⟩
      · have hltz : ¬ (kk : Int) < (n : Int) := by omega
        have h := uMany_stop HFK.out (.inl (by omega))
        clear HFK HFIN
        obtain ⟨Ax, cx, hvx⟩ := Kd.N_slice HOk.out
        subst hvx
        subst h
        go_wp2_with fail
        exact tail _ _ _ _ _ _ _ _ _ _ _ _ _ _ _ _ _ _ _ _ _ _ _ _ _ _ _ _ _ _ _ _ _ _ _ _ _ _ _ _ _ _ _ _ _ _ _ _ _ _ _ _ _ _ _ _ _ _ _ _ _ _ _ _ _ _ _ _ _ _ _ _ _ _ _ _ _ _ _ _ _ _ _ _ _ _ _ _ _ _ _ _ _ _ _ _ _ _ _ _ _ _ _ _ _ _ _ _ _ _ _ _ _ _ _ _ _ _ none 0 Ax cx rfl ⟨by rw [HDD.out]; exact HRk.out⟩ ⟨by rw [HDD.out]; exact ⟨Kd.F_nil _ _ _, Nat.zero_le _⟩⟩ ⟨by rw [HDD.out]; exact ⟨Kd.F_mono (Kd.N_F HOk.out) (fun k hk => by have h1 := HRk.out.2.2.2; have h2 := HL7.out; omega), (Kd.N_reads' HOk.out).2.1⟩⟩
  by_cases k5 : k = 5
  · subst k5
    have hdd := HD.out
    rw [if_neg (by decide), if_neg (by decide), if_neg (by decide), if_neg (by decide), if_pos rfl] at hdd
    have HDD := Aside0.mk hdd
    clear hdd HD
    have HNa := Aside0.mk (refNum W w4 u t 8 (by decide) HR4.out.2.1)
    generalize (uNum 8 t).1 = n1 at *
    generalize (uNum 8 t).2 = t1 at *
    go_wp2_with fail
    refine HNa.out.mono ?_
    rintro e w5 ⟨rfl, hi, hf⟩
    have HR5 := Aside0.mk (HR4.out.num hf hi); clear hi hf; have f2 : w5.frozen? ⟨r, 2, none⟩ = false := blk_frozen HR5.out.2.2.1 2; have q2 : w5.cell? ⟨r, 2, none⟩ = some (.int .u64 0) := (blk_cell HR5.out.2.2.1 2).trans rfl; have HR6 := Aside0.mk (HR5.out.set 2 (.int .u64 n1) (#[.int .i64 5, .int .u64 0, .int .u64 n1, .int .i64 0, .int .i64 0, .slice none 0 0, .slice none 0 0]) rfl)
    go_wp2_with fail
    exact tail _ _ _ _ _ _ _ _ _ _ _ _ _ _ _ _ _ _ _ _ _ _ _ _ _ _ _ _ _ _ _ _ _ _ _ _ _ _ _ _ _ _ _ _ _ _ _ _ _ _ _ _ _ _ _ _ _ _ _ _ _ _ _ _ _ _ _ _ _ _ _ _ _ _ _ _ _ _ _ _ _ _ _ _ _ _ _ _ _ _ _ _ _ _ _ _ _ _ _ _ _ _ _ _ _ _ _ _ _ _ _ _ _ _ _ _ _ _ none 0 none 0 rfl ⟨by rw [HDD.out]; exact HR6.out⟩ ⟨by rw [HDD.out]; exact ⟨Kd.F_nil _ _ _, Nat.zero_le _⟩⟩ ⟨by rw [HDD.out]; exact ⟨Kd.F_nil _ _ _, Nat.zero_le _⟩⟩
  have n1 : (k == 1) = false := by rw [beq_eq_false_iff_ne]; exact k1
  have n2 : (k == 2) = false := by rw [beq_eq_false_iff_ne]; exact k2
  have n3 : (k == 3) = false := by rw [beq_eq_false_iff_ne]; exact k3
  have n4 : (k == 4) = false := by rw [beq_eq_false_iff_ne]; exact k4
  have n5 : (k == 5) = false := by rw [beq_eq_false_iff_ne]; exact k5
  have hdd := HD.out
  rw [if_neg k1, if_neg k2, if_neg k3, if_neg k4, if_neg k5] at hdd
  have HDD := Aside0.mk hdd
  clear hdd HD k1 k2 k3 k4 k5
  go_wp2_with fail
  exact tail _ _ _ _ _ _ _ _ _ _ _ _ _ _ _ _ _ _ _ _ _ _ _ _ _ _ _ _ _ _ _ _ _ _ _ _ _ _ _ _ _ _ _ _ _ _ _ _ _ _ _ _ _ _ _ _ _ _ _ _ _ _ _ _ _ _ _ _ _ _ _ _ _ _ _ _ _ _ _ _ _ _ _ _ _ _ _ _ _ _ _ _ _ _ _ _ _ _ _ _ _ _ _ _ _ _ _ _ _ _ _ _ _ _ _ _ _ _ none 0 none 0 rfl ⟨by rw [HDD.out]; exact HR4.out⟩ ⟨by rw [HDD.out]; exact ⟨Kd.F_nil _ _ _, Nat.zero_le _⟩⟩ ⟨by rw [HDD.out]; exact ⟨Kd.F_nil _ _ _, Nat.zero_le _⟩⟩
end

section
open Go.Shelf Go.RowKit Go.Proofs.YtngjaaldidmgjaaW.PrintWords Go.Proofs.YtngjaaldidmgjaaW.PrintLast Go.Proofs.YtngjaaldidmgjaaW.PrintMore
set_option linter.unusedVariables false
set_option linter.unusedSimpArgs false

theorem sameR_self (x : Rc) : sameR x x = true := (sameR_iff x x).2 rfl
/-- Read, told in one. -/
theorem readU (A : Option Addr) (c : Nat) (bs : List Int) (W : World) (hr : Kd.C (Kd.int .u8) W A bs.length bs) (hc : bs.length ≤ c) (hl : bs.length ≤ 1000) (hby : ∀ x ∈ bs, isB x) :
    Calls Try.prog 47 #[.slice A bs.length c] W fun e w' => ∃ z A5 c5 A6 c6 ok, e = .returned (.tuple #[.agg (rcL z A5 c5 A6 c6), .bool ok]) ∧ (Kd.F kW w' (fun k => W.heap.size < k) A5 z.f5.length z.f5 ∧ z.f5.length ≤ c5) ∧ (Kd.F kV w' (fun k => W.heap.size < k) A6 z.f6.length z.f6 ∧ z.f6.length ≤ c6) ∧
      ok = decOk bs ∧ z = (if decOk bs = true then (sDec bs).rec_ else zRc) ∧ Below W.heap.size W w' := by
  refine (readGo A c bs W hr hc hl hby).mono ?_
  rintro e w' ⟨h1, h2, hb⟩
  cases hd : uOk bs with
  | true =>
    obtain ⟨A5, c5, A6, c6, rfl, f5, f6⟩ := h1 hd
    have hz := uRec_is bs hd
    rw [uOk_is] at hd
    refine ⟨(uDec bs).1, A5, c5, A6, c6, true, rfl, f5, f6, hd.symm, ?_, hb⟩
    rw [hd, if_pos rfl]; exact hz
  | false =>
    obtain rfl := h2 hd
    rw [uOk_is] at hd
    refine ⟨zRc, none, 0, none, 0, false, rfl, ⟨Kd.F_nil _ _ _, Nat.le_refl _⟩, ⟨Kd.F_nil _ _ _, Nat.le_refl _⟩, hd.symm, ?_, hb⟩
    rw [hd, if_neg (by decide)]
theorem at_LB {w : World} {A : Option Addr} {n : Nat} {xs : List (List Int)} (h : Kd.C (Kd.slice 5 (Kd.int .u8)) w A n xs) (k : Nat) (hk : k < n) : ∃ ad A0 c0, A = some ad ∧ w.cell? (ad.add k) = some (.slice A0 (xs.getD k []).length c0) ∧ (xs.getD k []).length ≤ c0 ∧ (Kd.int .u8).C w A0 (xs.getD k []).length (xs.getD k []) := by
  obtain ⟨ad, c, e, _, hK, hc0⟩ := Kd.C_get h ([] : List Int) (k : Int) (by omega) (by omega)
  have hc : ∀ j u, c[j]? = some u → w.cell? (ad.add ((k : Int).toNat * 1 + j)) = some u := hc0
  rw [Int.toNat_natCast] at hc
  obtain ⟨A0, c0, rfl, l0, g0⟩ := hK
  exact ⟨ad, A0, c0, e, by have hq := hc 0 _ rfl; rwa [Nat.mul_one, Nat.add_zero] at hq, l0, g0⟩
/-- Two records in boxes, read out of what has changed since. -/
def TwoR (w : World) (b B6 B8 : Nat) (z : Rc) (A5 : Option Addr) (c5 : Nat) (A6 : Option Addr) (c6 : Nat) (D5 : Option Addr) (d5 : Nat) (D6 : Option Addr) (d6 : Nat) : Prop :=
  (w.heap[B6]? = some (.cells (rcL z A5 c5 A6 c6) 28 (0, 0)) ∧ w.heap[B8]? = some (.cells (rcL z D5 d5 D6 d6) 28 (0, 0)) ∧ b ≤ B6 ∧ b ≤ B8) ∧
    (Kd.F kW w (fun k => b ≤ k) A5 z.f5.length z.f5 ∧ Kd.F kV w (fun k => b ≤ k) A6 z.f6.length z.f6) ∧ (Kd.F kW w (fun k => b ≤ k) D5 z.f5.length z.f5 ∧ Kd.F kV w (fun k => b ≤ k) D6 z.f6.length z.f6)
theorem TwoR.fr {w w1 : World} {b B6 B8 : Nat} {z : Rc} {A5 : Option Addr} {c5 : Nat} {A6 : Option Addr} {c6 : Nat} {D5 : Option Addr} {d5 : Nat} {D6 : Option Addr} {d6 : Nat} {S : Nat → Prop} (h : TwoR w b B6 B8 z A5 c5 A6 c6 D5 d5 D6 d6) (hf : Fr S w w1) (hS : ∀ k, S k → k < b) : TwoR w1 b B6 B8 z A5 c5 A6 c6 D5 d5 D6 d6 := by
  obtain ⟨⟨h1, h2, h3, h4⟩, ⟨h5, h6⟩, h7, h8⟩ := h
  have hn : ∀ k, b ≤ k → ¬ S k := fun k hk hs => by have := hS k hs; omega
  exact ⟨⟨hf.blk h1 (hn _ h3), hf.blk h2 (hn _ h4), h3, h4⟩, ⟨Kd.F_step h5 (fun k hk hlt => hf.block hlt (hn k hk)), Kd.F_step h6 (fun k hk hlt => hf.block hlt (hn k hk))⟩, Kd.F_step h7 (fun k hk hlt => hf.block hlt (hn k hk)), Kd.F_step h8 (fun k hk hlt => hf.block hlt (hn k hk))⟩
end

end Go.Proofs.Ytngjaaldidmgjaa.G
