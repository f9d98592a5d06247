/- SnapsTells: plain, then the walk. -/
import Derived.Test.YtfpicgefmgnfnaaS2
import Derived.Test.YtfpicgefmgnfnaaPx6
namespace Go.Proofs.Ytfpicgefmgnfnaa.G
open Go.RowKit Go.Proofs.YtfpicgefmgnfnaaW.PrintWords Go.Proofs.YtfpicgefmgnfnaaW.PrintLast Go.Proofs.YtfpicgefmgnfnaaW.PrintMore
set_option linter.unusedVariables false
set_option linter.unusedSimpArgs false

/-- The first handle's start, and whether there is one. -/
def oldest : List H → Int × Bool
  | [] => (0, false)
  | h :: _ => (h.f1, true)
theorem oldest_l0 (a : Int) (L : List H) (hL : L.length ≤ 1000) (x : Int) (hx : ∀ h ∈ L, x ≤ h.f1) : ∀ (m i k : Nat), L.length = i + m → m + 1 ≤ k →
    P.quiverref17_Oldest.l0 k x true (i : Int) a L = some (x, true)
  | 0, i, k + 1, h, _ => by
    rw [P.quiverref17_Oldest.l0, if_neg (by omega)]
  | m + 1, i, k + 1, h, hk => by
    have hi : i < L.length := by omega
    have := hx _ (List.getElem_mem hi)
    rw [P.quiverref17_Oldest.l0, if_pos (by omega), if_pos rfl, if_pos (by omega), rd_get L i hi, if_neg (by omega), wrap_id (by omega) (by omega), show ((i : Int) + 1) = ((i + 1 : Nat) : Int) by omega]
    exact oldest_l0 a L hL x hx m (i + 1) k (by omega) (by omega)
theorem refoldest_is (k : Nat) (a : Int) (l : List H) (hr : right a l = true) (hk : l.length + 2 ≤ k) : P.quiverref17_Oldest.f k a l = some (oldest l) := by
  obtain ⟨k, rfl⟩ : ∃ m, k = m + 1 := ⟨k - 1, by omega⟩
  unfold P.quiverref17_Oldest.f
  rw [P.quiverref17_Oldest.l0]
  cases l with
  | nil => simp [oldest]
  | cons h t =>
    obtain ⟨hl, _, _⟩ := right_len hr
    have hok := right_ok hr
    have h1 : ∀ x ∈ h :: t, h.f1 ≤ x.f1 := by
      intro x hx
      rcases List.mem_cons.1 hx with rfl | hx
      · omega
      · rw [okFrom] at hok
        split at hok
        · cases hok
        split at hok
        · cases hok
        split at hok
        · cases hok
        split at hok
        · cases hok
        exact okFrom_lo a t h.f0 h.f1 hok x hx
    have hrd : P.rd_T33 (h :: t) 0 = h := rfl
    rw [if_pos (by simp), if_neg (by simp), if_pos (by omega), hrd, show wrap64 (0 + 1) = ((1 : Nat) : Int) by rw [wrap_id (by omega) (by omega)]; rfl]
    rw [oldest_l0 a (h :: t) (by omega) h.f1 h1 t.length 1 k (by simp; omega) (by simp at hk; omega)]
    rfl
theorem snapsoldest_is (k : Nat) (a : Int) (l : List H) (hk : l.length + 3 ≤ k) : P.snaps_Oldest.f k a l = some (if right a l = true then oldest l else (0, false)) := by
  unfold P.snaps_Oldest.f
  rw [check_is k a l hk]
  cases hr : right a l with
  | false => simp
  | true =>
    simp only [Option.bind_some, if_true]
    cases l with
    | nil => simp [oldest]
    | cons h t =>
      have hrd : P.rd_T33 (h :: t) 0 = h := rfl
      rw [if_neg (by simp; omega), if_pos (by simp), hrd]
      rfl
theorem nums_l0 (L : List H) (hL : L.length ≤ 1000) : ∀ (m i k : Nat) (acc : List Int), L.length = i + m → m + 1 ≤ k → acc.length = i →
    P.snaps_Nums.l0 k acc L (L.length : Int) (i : Int) = some (acc ++ (L.drop i).map (·.f0))
  | 0, i, k + 1, acc, h, _, _ => by
    have h1 : L.drop i = [] := List.drop_eq_nil_of_le (by omega)
    rw [P.snaps_Nums.l0, if_neg (by omega), h1]
    simp
  | m + 1, i, k + 1, acc, h, hk, hac => by
    have hi : i < L.length := by omega
    rw [P.snaps_Nums.l0, if_pos (by omega), if_pos (by omega), if_pos (by omega), if_pos (by omega), rd_get L i hi, wrap_id (by omega) (by omega), show ((i : Int) + 1) = ((i + 1 : Nat) : Int) by omega,
      nums_l0 L hL m (i + 1) k _ (by omega) (by omega) (by simp; omega), List.drop_eq_getElem_cons hi]
    simp only [List.map_cons, List.append_assoc, List.singleton_append]
theorem nums_is (k : Nat) (a : Int) (l : List H) (hk : l.length + 3 ≤ k) : P.snaps_Nums.f k a l = some (if right a l = true then l.map (·.f0) else []) := by
  unfold P.snaps_Nums.f
  rw [check_is k a l hk]
  cases hr : right a l with
  | false => simp
  | true =>
    obtain ⟨hl, _, _⟩ := right_len hr
    simp only [Option.bind_some, if_true]
    rw [show ((0 : Int)) = ((0 : Nat) : Int) by rfl, nums_l0 l (by omega) l.length 0 k [] (by omega) (by omega) rfl]
    simp
/-- What Start gives. -/
def start (a : Int) (l : List H) (num : Int) : Int × Int :=
  if right a l = true then (if place num 0 l < 0 then (0, 271) else ((P.rd_T33 l (place num 0 l)).f1, 0)) else (0, 270)
theorem start_is (k : Nat) (a num : Int) (l : List H) (hk : l.length + 3 ≤ k) : P.snaps_Start.f k a l num = some (start a l num) := by
  unfold P.snaps_Start.f start
  rw [check_is k a l hk]
  cases hr : right a l with
  | false => simp
  | true =>
    obtain ⟨hl, _, _⟩ := right_len hr
    unfold reg_of.f
    simp only [Option.bind_some, if_true]
    rw [if_pos (by omega)]
    simp only [Option.bind_some]
    rcases place_bound num l 0 with h | ⟨h1, h2⟩
    · rw [if_pos (by omega), if_pos (by omega)]
    · rw [if_neg (by omega), if_pos (by omega), if_pos (by omega), if_neg (by omega)]

theorem tells_l0 (a num : Int) (l : List H) (hr : right a l = true) : ∀ (m i k : Nat), l.length = i + m → m + 100 ≤ k →
    P.quiverlaw17_SnapsTells.l0 k num (start a l num).1 (start a l num).2 (l.map (·.f0)) l (l.length : Int) (i : Int) a l = some true
  | m + 1, i, k + 1, h, hk => by
    have hl := (right_len hr).1
    have hi : i < l.length := by omega
    have e : rd (l.map (·.f0)) (i : Int) = (l[i]).f0 := by simp [rd, List.getD, hi]
    rw [P.quiverlaw17_SnapsTells.l0, if_pos (by omega), if_pos (by omega), if_pos (by omega), if_pos (by simp; omega), rd_get l i hi, if_pos e, wrap_id (by omega) (by omega), show ((i : Int) + 1) = ((i + 1 : Nat) : Int) by omega]
    exact tells_l0 a num l hr m (i + 1) k (by omega) (by omega)
  | 0, i, k + 1, h, hk => by
    have hl := (right_len hr).1
    rw [P.quiverlaw17_SnapsTells.l0, if_neg (by omega), place_is k a num l (by omega) (by omega)]
    simp only [Option.bind_some]
    unfold start
    rw [hr]
    simp only [if_true]
    rcases place_bound num l 0 with h | ⟨h1, h2⟩
    · have hz : place num 0 l < 0 := by omega
      simp [hz]
    · have hz : ¬ place num 0 l < 0 := by omega
      simp only [if_neg hz, if_true]
      rw [if_pos (by omega), if_pos (by omega)]
      simp

theorem tells_j1 (a num : Int) (l : List H) (hs : ∀ h ∈ l, 0 ≤ h.f1) (hl : l.length ≤ 100) (k : Nat) (hk : 300 ≤ k) :
    P.quiverlaw17_SnapsTells.j1 k num (if right a l = true then 0 else 270) (start a l num).1 (start a l num).2 (if right a l = true then oldest l else (0, false)).1 (if right a l = true then oldest l else (0, false)).2 (if right a l = true then l.map (·.f0) else []) false a l = some true := by
  obtain ⟨k, rfl⟩ : ∃ m, k = m + 2 := ⟨k - 2, by omega⟩
  rw [P.quiverlaw17_SnapsTells.j1, if_neg (by simp), right_is (k + 1) a l hs (by omega)]
  simp only [Option.bind_some]
  cases hr : right a l with
  | true =>
    simp only [if_true]
    rw [refoldest_is (k + 1) a l hr (by omega)]
    simp only [Option.bind_some, if_true]
    rw [if_neg (by simp), P.quiverlaw17_SnapsTells.j2, if_neg (by simp)]
    exact tells_l0 a num l hr l.length 0 k (by omega) (by omega)
  | false =>
    have e : start a l num = (0, 270) := by unfold start; rw [hr]; rfl
    rw [e]
    simp

theorem tells_pure (a num b : Int) (l m : List H) (hs : ∀ h ∈ l, 0 ≤ h.f1) : P.quiverlaw17_SnapsTells.f 500 a l b m num = some true := by
  unfold P.quiverlaw17_SnapsTells.f
  rw [show P.quiverlaw17_wakes.f 500 = some true by decide +kernel]
  simp only [Option.bind_some, if_true]
  by_cases hl : (l.length : Int) > 100
  · rw [if_pos hl, show (500 : Nat) = 499 + 1 by rfl, P.quiverlaw17_SnapsTells.j0, if_pos rfl]
  by_cases hm : (m.length : Int) > 100
  · rw [if_neg hl, show (500 : Nat) = 499 + 1 by rfl, P.quiverlaw17_SnapsTells.j0, if_pos (by simpa using hm)]
  rw [if_neg hl, show (500 : Nat) = 499 + 1 by rfl, P.quiverlaw17_SnapsTells.j0, if_neg (by simpa using hm), check_is 499 a l (by omega)]
  simp only [Option.bind_some]
  rw [start_is 499 a num l (by omega)]
  simp only [Option.bind_some]
  rw [snapsoldest_is 499 a l (by omega)]
  simp only [Option.bind_some]
  rw [nums_is 499 a l (by omega)]
  simp only [Option.bind_some]
  rw [snaps_same_is 499 a b l m (by omega) (by omega), same_is 499 a b l m (by omega) (by omega)]
  simp only [Option.bind_some]
  rw [if_neg (by simp), snaps_same_is 499 a a l l (by omega) (by omega)]
  simp only [Option.bind_some, and_self, decide_true, if_true]
  unfold P.snaps_New.f
  simp only [Option.bind_some]
  rw [snaps_same_is 499 1 1 [] [] (by simp) (by simp)]
  simp only [Option.bind_some, and_self, decide_true, Bool.not_true]
  exact tells_j1 a num l hs (by omega) 499 (by omega)

theorem u64_nn {x : Int} (h : (Lit.int .u64 x).wf = true) : 0 ≤ x := by
  simp [Lit.wf] at h
  have : IntKind.u64.min = 0 := by decide
  omega
abbrev kSo := Kd.pair (Kd.int .i64) (Kd.slice 33 P.k33)
abbrev wSo (x : Int × List H) : Prop := (Lit.int .i64 x.1).wf = true ∧ ∀ h ∈ x.2, (Lit.int .i64 h.f0).wf = true ∧ (Lit.int .u64 h.f1).wf = true
theorem kSo_open {W : World} {x : Int × List H} {cs : Array Value} (hK : kSo.K W x cs.toList) : ∃ A c, cs = #[.int .i64 x.1, .slice A x.2.length c] ∧ x.2.length ≤ c ∧ Kd.C P.k33 W A x.2.length x.2 := by
  obtain ⟨c0, c1, hcs, h0, A, c, h1, hlc, hC⟩ := hK
  refine ⟨A, c, ?_, hlc, hC⟩
  have h0' : c0 = [.int .i64 x.1] := h0
  apply Array.toList_inj.1
  rw [hcs, h0', h1]
  rfl

theorem snapsTells.walk (x : Int × List H) (cs : Array Value) (y : Int × List H) (ds : Array Value) (a : Int) (W : World) (hK : kSo.K W x cs.toList) (wx : wSo x) (hK' : kSo.K W y ds.toList) (wy : wSo y) (wa : (Lit.int .i64 a).wf = true) :
    Calls Try.prog 4 #[.agg cs, .agg ds, .int .i64 a] W fun e W' => e = .returned (.bool true) ∧ Below W.heap.size W W' := by
  obtain ⟨A, c, rfl, hlc, hC⟩ := kSo_open hK
  obtain ⟨B, d, rfl, hld, hD⟩ := kSo_open hK'
  exact P.quiverlaw17_SnapsTells.calls 500 x.1 A c x.2 y.1 B d y.2 a true W hC hlc hD hld (tells_pure x.1 a y.1 x.2 y.2 (fun h hh => u64_nn (wx.2 h hh).2))

end Go.Proofs.Ytfpicgefmgnfnaa.G
