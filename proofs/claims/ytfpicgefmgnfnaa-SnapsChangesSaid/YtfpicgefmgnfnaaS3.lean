/- SnapsBack, SnapsChanges: plain, then the walks. -/
import Derived.Test.YtfpicgefmgnfnaaS2
import Derived.Test.YtfpicgefmgnfnaaPx8
import Derived.Test.YtfpicgefmgnfnaaPx9
namespace Go.Proofs.Ytfpicgefmgnfnaa.G
open Go.RowKit Go.Proofs.YtfpicgefmgnfnaaW.PrintWords Go.Proofs.YtfpicgefmgnfnaaW.PrintLast Go.Proofs.YtfpicgefmgnfnaaW.PrintMore
set_option linter.unusedVariables false
set_option linter.unusedSimpArgs false

theorem okFrom_snoc (a start : Int) (h40 : start ≤ 1099511627776) : ∀ (l : List H) (n s : Int), okFrom a n s l = true → n < a → lastS s l ≤ start → okFrom (a + 1) n s (l ++ [⟨a, start⟩]) = true
  | [], n, s, _, hn, hl => by
    simp only [lastS] at hl
    simp only [List.nil_append, okFrom]
    rw [if_neg (by omega), if_neg (by omega), if_neg (by omega), if_neg (by omega)]
  | h :: l, n, s, hok, hn, hl => by
    rw [okFrom] at hok
    split at hok
    · cases hok
    split at hok
    · cases hok
    split at hok
    · cases hok
    split at hok
    · cases hok
    rw [List.cons_append, okFrom, if_neg (by omega), if_neg (by omega), if_neg (by omega), if_neg (by omega)]
    exact okFrom_snoc a start h40 l h.f0 h.f1 hok (by omega) hl
theorem place_snoc (a start : Int) : ∀ (l : List H) (i : Int), (∀ x ∈ l, x.f0 ≠ a) → place a i (l ++ [⟨a, start⟩]) = i + l.length
  | [], i, _ => by simp [place]
  | h :: l, i, hno => by
    rw [List.cons_append, place, if_neg (hno h (by simp)), place_snoc a start l (i + 1) (fun x hx => hno x (by simp [hx]))]
    simp; omega

def fin (a : Int) (l : List H) (num : Int) : Int × List H × Int :=
  if right a l = true then (if place num 0 l < 0 then (0, [], 271) else (a, l.eraseIdx (place num 0 l).toNat, 0)) else (0, [], 270)
theorem fin_is (a : Int) (l : List H) (num : Int) : snaps_End.f a l num = some (fin a l num) := by
  unfold snaps_End.f fin
  split
  · split <;> rfl
  · rfl

theorem back_pure (a start : Int) (l : List H) (h0 : 0 ≤ start) : P.quiverlaw17_SnapsBack.f 300 a l start = some true := by
  unfold P.quiverlaw17_SnapsBack.f
  rw [wakes_is]
  simp only [Option.bind_some, if_true]
  by_cases hl : (l.length : Int) > 100
  · rw [if_pos hl]
  rw [if_neg hl, begin_is 300 a start l (by omega)]
  simp only [Option.bind_some]
  unfold beg
  cases hr : right a l with
  | false => simp
  | true =>
    obtain ⟨hl, h1, h2⟩ := right_len hr
    have hok := right_ok hr
    rw [if_pos rfl]
    by_cases hN : start > 1099511627776 ∨ start < lastS 0 l
    · rw [if_pos hN]; simp
    rw [if_neg hN]
    by_cases hF : l.length = 64 ∨ a = 1073741824
    · rw [if_pos hF]; simp
    rw [if_neg hF]
    have hr' : right (a + 1) (l ++ [⟨a, start⟩]) = true := by
      unfold right
      rw [if_neg (by omega), if_neg (by omega), if_neg (by simp; omega)]
      exact okFrom_snoc a start (by omega) l 0 0 hok (by omega) (by omega)
    have hp : place a 0 (l ++ [⟨a, start⟩]) = ((l.length : Nat) : Int) := by
      rw [place_snoc a start l 0 (fun x hx => by have := okFrom_num a l 0 0 hok x hx; omega)]; omega
    have hlen : (l ++ [(⟨a, start⟩ : H)]).length = l.length + 1 := by simp
    simp only []
    rw [if_pos trivial, fin_is]
    unfold P.snaps_Start.f fin reg_of.f
    rw [check_is 300 (a + 1) _ (by rw [hlen]; omega), hr']
    simp only [Option.bind_some, if_true]
    rw [hp, if_pos (by rw [hlen]; omega)]
    simp only [Option.bind_some]
    rw [if_neg (by omega), if_pos (by omega), if_pos (by rw [hlen]; omega), rd_get _ l.length (by rw [hlen]; omega)]
    simp only [Option.bind_some, if_true]
    have hz : ¬ ((l.length : Int) < 0) := by omega
    rw [if_pos (by simp)]
    simp only [if_neg hz, if_true, Int.toNat_natCast]
    rw [snaps_same_is 300 a a _ l (by rw [List.length_eraseIdx]; split <;> omega) (by rw [List.length_eraseIdx]; split <;> omega)]
    have he : (l ++ [(⟨a, start⟩ : H)]).eraseIdx l.length = l := by
      rw [List.eraseIdx_append_of_length_le (Nat.le_refl _)]; simp
    simp [he]

theorem changes_l0 (a start num : Int) (l : List H) (hs : ∀ h ∈ l, 0 ≤ h.f1) (h0 : 0 ≤ start) (hl : l.length ≤ 100) : ∀ (m i k : Nat), l.length = i + m → m + 250 ≤ k →
    P.quiverlaw17_SnapsChanges.l0 k start num l (beg a l start).2.2.1 (beg a l start).2.2.2 (fin a l num).2.2 (l.length : Int) (i : Int) a l (beg a l start).1 (beg a l start).2.1 (fin a l num).1 (fin a l num).2.1 = some true
  | m + 1, i, k + 1, h, hk => by
    have hi : i < l.length := by omega
    rw [P.quiverlaw17_SnapsChanges.l0, if_pos (by omega), if_pos (by omega), if_pos (by omega), if_pos (by omega), if_neg (by simp), wrap_id (by omega) (by omega), show ((i : Int) + 1) = ((i + 1 : Nat) : Int) by omega]
    exact changes_l0 a start num l hs h0 hl m (i + 1) k (by omega) (by omega)
  | 0, i, k + 2, h, hk => by
    have hbl : (beg a l start).2.1.length ≤ 200 := by
      unfold beg
      repeat' split
      all_goals simp
      all_goals omega
    rw [P.quiverlaw17_SnapsChanges.l0, if_neg (by omega), right_is (k + 1) a l hs (by omega)]
    simp only [Option.bind_some]
    cases hr : right a l with
    | false =>
      have e1 : beg a l start = (0, [], 0, 270) := by unfold beg; rw [hr]; rfl
      have e2 : fin a l num = (0, [], 270) := by unfold fin; rw [hr]; rfl
      rw [e1, e2]
      simp only [Bool.false_eq_true, if_false]
      rw [same_is (k + 1) 0 0 [] [] (by simp) (by simp; omega)]
      simp
    | true =>
      have hj : ∀ q : Bool, q = false → P.quiverlaw17_SnapsChanges.j1 (k + 1) num (fin a l num).2.2 q a l (fin a l num).1 (fin a l num).2.1 0 = some true := by
        rintro q rfl
        rw [P.quiverlaw17_SnapsChanges.j1, if_neg (by simp), place_is k a num l (by omega) (by omega)]
        simp only [Option.bind_some]
        unfold fin
        rw [hr]
        simp only [if_true]
        by_cases hp : place num 0 l < 0
        · rw [if_pos hp, if_pos hp]
          simp only []
          rw [same_is k 0 0 [] [] (by simp) (by simp; omega)]
          simp
        · obtain ⟨j, hj⟩ : ∃ j : Nat, place num 0 l = j := ⟨(place num 0 l).toNat, by omega⟩
          rw [if_neg hp, if_neg hp, hj]
          simp only [if_true, Int.toNat_natCast]
          rw [end_is k j a l (by omega) (by omega)]
          simp only [Option.bind_some]
          rw [same_is k a a _ _ (by rw [List.length_eraseIdx]; split <;> omega) (by rw [List.length_eraseIdx]; split <;> omega)]
          simp
      simp only [if_true]
      rw [refbegin_is (k + 1) a start l (by omega) hr h0]
      simp only [Option.bind_some, if_true]
      rw [same_is (k + 1) _ _ _ _ (by omega) (by omega)]
      simp only [Option.bind_some, and_self, decide_true, if_true]
      by_cases he : (beg a l start).2.2.2 = 0
      · rw [if_pos he]
        have : (beg a l start).2.2.1 = a := by
          unfold beg at he ⊢
          rw [hr] at he ⊢
          simp only [if_true] at he ⊢
          split
          · rename_i hc; rw [if_pos hc] at he; simp at he
          · rename_i hc
            rw [if_neg hc] at he
            split
            · rename_i hd; rw [if_pos hd] at he; simp at he
            · rfl
        rw [if_pos this]
        exact hj false rfl
      · rw [if_neg he]
        refine hj _ ?_
        unfold beg at he ⊢
        rw [hr] at he ⊢
        simp only [if_true] at he ⊢
        split
        · rfl
        · rename_i hc
          rw [if_neg hc] at he
          split
          · rfl
          · rename_i hd; rw [if_neg hd] at he; simp at he

theorem changes_pure (a start num : Int) (l : List H) (hs : ∀ h ∈ l, 0 ≤ h.f1) (h0 : 0 ≤ start) : P.quiverlaw17_SnapsChanges.f 500 a l start num = some true := by
  unfold P.quiverlaw17_SnapsChanges.f
  rw [show P.quiverlaw17_wakes.f 500 = some true by decide +kernel]
  simp only [Option.bind_some, if_true]
  by_cases hl : (l.length : Int) > 100
  · rw [if_pos hl]
  rw [if_neg hl, if_pos (by simp; omega), List.nil_append, begin_is 500 a start l (by omega), fin_is]
  simp only [Option.bind_some]
  exact changes_l0 a start num l hs h0 (by omega) l.length 0 500 (by omega) (by omega)

theorem u64_nonneg {x : Int} (h : (Lit.int .u64 x).wf = true) : 0 ≤ x := by
  simp [Lit.wf] at h
  have : IntKind.u64.min = 0 := by decide
  omega
abbrev kSn := Kd.pair (Kd.int .i64) (Kd.slice 33 P.k33)
abbrev wSn (x : Int × List H) : Prop := (Lit.int .i64 x.1).wf = true ∧ ∀ h ∈ x.2, (Lit.int .i64 h.f0).wf = true ∧ (Lit.int .u64 h.f1).wf = true
theorem kSn_open {W : World} {x : Int × List H} {cs : Array Value} (hK : kSn.K W x cs.toList) : ∃ A c, cs = #[.int .i64 x.1, .slice A x.2.length c] ∧ x.2.length ≤ c ∧ Kd.C P.k33 W A x.2.length x.2 := by
  obtain ⟨c0, c1, hcs, h0, A, c, h1, hlc, hC⟩ := hK
  refine ⟨A, c, ?_, hlc, hC⟩
  have h0' : c0 = [.int .i64 x.1] := h0
  apply Array.toList_inj.1
  rw [hcs, h0', h1]
  rfl

theorem snapsBack.walk (x : Int × List H) (cs : Array Value) (a : Int) (W : World) (hK : kSn.K W x cs.toList) (wx : wSn x) (wa : (Lit.int .u64 a).wf = true) :
    Calls Try.prog 6 #[.agg cs, .int .u64 a] W fun e W' => e = .returned (.bool true) ∧ Below W.heap.size W W' := by
  obtain ⟨A, c, rfl, hlc, hC⟩ := kSn_open hK
  exact P.quiverlaw17_SnapsBack.calls 300 x.1 A c x.2 a true W hC hlc (back_pure x.1 a x.2 (u64_nonneg wa))
theorem snapsChanges.walk (x : Int × List H) (cs : Array Value) (a b : Int) (W : World) (hK : kSn.K W x cs.toList) (wx : wSn x) (wa : (Lit.int .u64 a).wf = true) (wb : (Lit.int .i64 b).wf = true) :
    Calls Try.prog 3 #[.agg cs, .int .u64 a, .int .i64 b] W fun e W' => e = .returned (.bool true) ∧ Below W.heap.size W W' := by
  obtain ⟨A, c, rfl, hlc, hC⟩ := kSn_open hK
  exact P.quiverlaw17_SnapsChanges.calls 500 x.1 A c x.2 a b true W hC hlc (changes_pure x.1 a b x.2 (fun h hh => u64_nonneg (wx.2 h hh).2) (u64_nonneg wa))

end Go.Proofs.Ytfpicgefmgnfnaa.G
