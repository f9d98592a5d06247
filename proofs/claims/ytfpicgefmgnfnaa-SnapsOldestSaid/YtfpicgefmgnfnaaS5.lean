/- SnapsOldest: what handles are when one is opened or closed, and the maps beside them: plain. -/
import Derived.Test.YtfpicgefmgnfnaaS2
import Derived.Test.YtfpicgefmgnfnaaPx5
import Derived.Maps.RangeWalk
import Derived.Maps.OwnSet
namespace Go.Proofs.Ytfpicgefmgnfnaa.G
open Go.RowKit Go.Proofs.YtfpicgefmgnfnaaW.PrintWords Go.Proofs.YtfpicgefmgnfnaaW.PrintLast Go.Proofs.YtfpicgefmgnfnaaW.PrintMore
set_option linter.unusedVariables false
set_option linter.unusedSimpArgs false

/-- The first handle's start, and whether there is one. -/
def oldest : List H → Int × Bool
  | [] => (0, false)
  | h :: _ => (h.f1, true)
theorem snapsoldest_is (k : Nat) (a : Int) (l : List H) (hk : l.length + 3 ≤ k) : P.snaps_Oldest.f k a l = some (if right a l = true then oldest l else (0, false)) := by
  unfold P.snaps_Oldest.f
  rw [check_is k a l hk]
  cases hr : right a l with
  | false => simp
  | true =>
    simp only [Option.bind_some, if_true]
    cases l with
    | nil => simp [oldest]
    | cons h t =>
      have hrd : P.rd_T33 (h :: t) 0 = h := rfl
      rw [if_neg (by simp; omega), if_pos (by simp), hrd]
      rfl
theorem nums_l0 (L : List H) (hL : L.length ≤ 1000) : ∀ (m i k : Nat) (acc : List Int), L.length = i + m → m + 1 ≤ k → acc.length = i →
    P.snaps_Nums.l0 k acc L (L.length : Int) (i : Int) = some (acc ++ (L.drop i).map (·.f0))
  | 0, i, k + 1, acc, h, _, _ => by
    have h1 : L.drop i = [] := List.drop_eq_nil_of_le (by omega)
    rw [P.snaps_Nums.l0, if_neg (by omega), h1]
    simp
  | m + 1, i, k + 1, acc, h, hk, hac => by
    have hi : i < L.length := by omega
    rw [P.snaps_Nums.l0, if_pos (by omega), if_pos (by omega), if_pos (by omega), if_pos (by omega), rd_get L i hi, wrap_id (by omega) (by omega), show ((i : Int) + 1) = ((i + 1 : Nat) : Int) by omega,
      nums_l0 L hL m (i + 1) k _ (by omega) (by omega) (by simp; omega), List.drop_eq_getElem_cons hi]
    simp only [List.map_cons, List.append_assoc, List.singleton_append]
theorem nums_is (k : Nat) (a : Int) (l : List H) (hk : l.length + 3 ≤ k) : P.snaps_Nums.f k a l = some (if right a l = true then l.map (·.f0) else []) := by
  unfold P.snaps_Nums.f
  rw [check_is k a l hk]
  cases hr : right a l with
  | false => simp
  | true =>
    obtain ⟨hl, _, _⟩ := right_len hr
    simp only [Option.bind_some, if_true]
    rw [show ((0 : Int)) = ((0 : Nat) : Int) by rfl, nums_l0 l (by omega) l.length 0 k [] (by omega) (by omega) rfl]
    simp
/-- What Start gives. -/
def start (a : Int) (l : List H) (num : Int) : Int × Int :=
  if right a l = true then (if place num 0 l < 0 then (0, 271) else ((P.rd_T33 l (place num 0 l)).f1, 0)) else (0, 270)
theorem start_is (k : Nat) (a num : Int) (l : List H) (hk : l.length + 3 ≤ k) : P.snaps_Start.f k a l num = some (start a l num) := by
  unfold P.snaps_Start.f start
  rw [check_is k a l hk]
  cases hr : right a l with
  | false => simp
  | true =>
    obtain ⟨hl, _, _⟩ := right_len hr
    unfold reg_of.f
    simp only [Option.bind_some, if_true]
    rw [if_pos (by omega)]
    simp only [Option.bind_some]
    rcases place_bound num l 0 with h | ⟨h1, h2⟩
    · rw [if_pos (by omega), if_pos (by omega)]
    · rw [if_neg (by omega), if_pos (by omega), if_pos (by omega), if_neg (by omega)]
theorem okFrom_snoc (a start : Int) (h40 : start ≤ 1099511627776) : ∀ (l : List H) (n s : Int), okFrom a n s l = true → n < a → lastS s l ≤ start → okFrom (a + 1) n s (l ++ [⟨a, start⟩]) = true
  | [], n, s, _, hn, hl => by
    simp only [lastS] at hl
    simp only [List.nil_append, okFrom]
    rw [if_neg (by omega), if_neg (by omega), if_neg (by omega), if_neg (by omega)]
  | h :: l, n, s, hok, hn, hl => by
    rw [okFrom] at hok
    split at hok
    · cases hok
    split at hok
    · cases hok
    split at hok
    · cases hok
    split at hok
    · cases hok
    rw [List.cons_append, okFrom, if_neg (by omega), if_neg (by omega), if_neg (by omega), if_neg (by omega)]
    exact okFrom_snoc a start h40 l h.f0 h.f1 hok (by omega) hl
def fin (a : Int) (l : List H) (num : Int) : Int × List H × Int :=
  if right a l = true then (if place num 0 l < 0 then (0, [], 271) else (a, l.eraseIdx (place num 0 l).toNat, 0)) else (0, [], 270)
theorem fin_is (a : Int) (l : List H) (num : Int) : snaps_End.f a l num = some (fin a l num) := by
  unfold snaps_End.f fin
  split
  · split <;> rfl
  · rfl

theorem ok_parts {a n s : Int} {h : H} {l : List H} (hok : okFrom a n s (h :: l) = true) : n < h.f0 ∧ h.f0 < a ∧ s ≤ h.f1 ∧ h.f1 ≤ 1099511627776 ∧ okFrom a h.f0 h.f1 l = true := by
  rw [okFrom] at hok
  split at hok
  · cases hok
  split at hok
  · cases hok
  split at hok
  · cases hok
  split at hok
  · cases hok
  exact ⟨by omega, by omega, by omega, by omega, hok⟩
theorem ok_mk {a n s : Int} {h : H} {l : List H} (h1 : n < h.f0) (h2 : h.f0 < a) (h3 : s ≤ h.f1) (h4 : h.f1 ≤ 1099511627776) (h5 : okFrom a h.f0 h.f1 l = true) : okFrom a n s (h :: l) = true := by
  rw [okFrom, if_neg (by omega), if_neg (by omega), if_neg (by omega), if_neg (by omega)]
  exact h5
theorem okFrom_weak {a n s n' s' : Int} {l : List H} (h : okFrom a n s l = true) (hn : n' ≤ n) (hs : s' ≤ s) : okFrom a n' s' l = true := by
  cases l with
  | nil => rfl
  | cons x l =>
    obtain ⟨h1, h2, h3, h4, h5⟩ := ok_parts h
    exact ok_mk (by omega) h2 (by omega) h4 h5
theorem okFrom_erase {a : Int} : ∀ (l : List H) (n s : Int) (i : Nat), okFrom a n s l = true → okFrom a n s (l.eraseIdx i) = true
  | [], _, _, _, h => by simpa using h
  | x :: l, n, s, 0, h => by
    obtain ⟨h1, h2, h3, h4, h5⟩ := ok_parts h
    exact okFrom_weak h5 (by omega) h3
  | x :: l, n, s, i + 1, h => by
    obtain ⟨h1, h2, h3, h4, h5⟩ := ok_parts h
    exact ok_mk h1 h2 h3 h4 (okFrom_erase l _ _ i h5)
theorem right_mk {a : Int} {l : List H} (h1 : 1 ≤ a) (h2 : a ≤ 1073741824) (h3 : l.length ≤ 64) (h4 : okFrom a 0 0 l = true) : right a l = true := by
  unfold right
  rw [if_neg (by omega), if_neg (by omega), if_neg (by omega)]
  exact h4
theorem right_erase {a : Int} {l : List H} (h : right a l = true) (i : Nat) : right a (l.eraseIdx i) = true := by
  obtain ⟨h1, h2, h3⟩ := right_len h
  exact right_mk h2 h3 (Nat.le_trans (List.length_eraseIdx_le _ _) h1) (okFrom_erase l 0 0 i (right_ok h))
theorem right_snoc {a start : Int} {l : List H} (h : right a l = true) (hl : l.length < 64) (ha : a < 1073741824) (h40 : start ≤ 1099511627776) (hs : lastS 0 l ≤ start) : right (a + 1) (l ++ [⟨a, start⟩]) = true := by
  obtain ⟨h1, h2, h3⟩ := right_len h
  exact right_mk (by omega) (by omega) (by simp; omega) (okFrom_snoc a start h40 l 0 0 (right_ok h) (by omega) hs)
theorem num_pair {a : Int} : ∀ (l : List H) (n s : Int), okFrom a n s l = true → l.Pairwise (fun x y => x.f0 ≠ y.f0)
  | [], _, _, _ => List.Pairwise.nil
  | x :: l, n, s, h => by
    obtain ⟨h1, h2, h3, h4, h5⟩ := ok_parts h
    refine List.pairwise_cons.2 ⟨fun y hy e => ?_, num_pair l _ _ h5⟩
    have := okFrom_num a l _ _ h5 y hy
    omega
/-- Each handle by a number of its own. -/
def Apart1 (l : List H) : Prop := l.Pairwise (fun x y => x.f0 ≠ y.f0)
theorem place_at (num : Int) : ∀ (l : List H) (i : Int), (∃ h ∈ l, h.f0 = num) → ∃ (j : Nat) (hj : j < l.length), place num i l = i + j ∧ (l[j]).f0 = num
  | [], _, ⟨h, hh, _⟩ => by simp at hh
  | x :: l, i, ⟨h, hh, e⟩ => by
    rw [place]
    by_cases hx : x.f0 = num
    · rw [if_pos hx]; exact ⟨0, by simp, by simp, hx⟩
    · rw [if_neg hx]
      have hl : ∃ h ∈ l, h.f0 = num := by
        rcases List.mem_cons.1 hh with rfl | hh
        · exact absurd e hx
        · exact ⟨h, hh, e⟩
      obtain ⟨j, hj, h1, h2⟩ := place_at num l (i + 1) hl
      exact ⟨j + 1, by simpa using hj, by rw [h1]; omega, by simpa using h2⟩
theorem place_no (num : Int) : ∀ (l : List H) (i : Int), (∀ h ∈ l, h.f0 ≠ num) → place num i l = -1
  | [], _, _ => rfl
  | x :: l, i, h => by
    rw [place, if_neg (h x (by simp))]
    exact place_no num l (i + 1) (fun y hy => h y (by simp [hy]))
theorem apart_erase {l : List H} (h : Apart1 l) (j : Nat) (hj : j < l.length) : ∀ x ∈ l.eraseIdx j, x.f0 ≠ (l[j]).f0 := by
  intro x hx e
  obtain ⟨i, hi, hne, hxi⟩ := List.mem_eraseIdx_iff_getElem.1 hx
  subst hxi
  rcases Nat.lt_or_gt_of_ne hne with h1 | h1
  · exact (List.pairwise_iff_getElem.1 h i j hi hj h1) e
  · exact (List.pairwise_iff_getElem.1 h j i hj hi h1) e.symm
theorem start_at {a : Int} {l : List H} {h : H} (hr : right a l = true) (hh : h ∈ l) : start a l h.f0 = (h.f1, 0) := by
  obtain ⟨j, hj, h1, h2⟩ := place_at h.f0 l 0 ⟨h, hh, rfl⟩
  have hp := num_pair l 0 0 (right_ok hr)
  have he : l[j] = h := by
    obtain ⟨i, hi, rfl⟩ := List.getElem_of_mem hh
    rcases Nat.lt_trichotomy i j with h3 | h3 | h3
    · exact absurd h2.symm (List.pairwise_iff_getElem.1 hp i j hi hj h3)
    · subst h3; rfl
    · exact absurd h2 (List.pairwise_iff_getElem.1 hp j i hj hi h3)
  unfold start
  rw [if_pos hr, if_neg (by omega), h1, show (0 : Int) + (j : Int) = (j : Int) by omega, rd_get l j hj, he]
theorem start_gone {a : Int} {l : List H} {num : Int} (hr : right a l = true) (hh : ∀ h ∈ l, h.f0 ≠ num) : start a l num = (0, 271) := by
  unfold start
  rw [if_pos hr, place_no num l 0 hh, if_pos (by decide)]
/-- What closing the j-th does. -/
theorem fin_at {a : Int} {l : List H} (hr : right a l = true) (j : Nat) (hj : j < l.length) : fin a l (l[j]).f0 = (a, l.eraseIdx j, 0) := by
  obtain ⟨i, hi, h1, h2⟩ := place_at (l[j]).f0 l 0 ⟨l[j], List.getElem_mem hj, rfl⟩
  have hp := num_pair l 0 0 (right_ok hr)
  have he : i = j := by
    rcases Nat.lt_trichotomy i j with h3 | h3 | h3
    · exact absurd h2 (List.pairwise_iff_getElem.1 hp i j hi hj h3)
    · exact h3
    · exact absurd h2.symm (List.pairwise_iff_getElem.1 hp j i hj hi h3)
  subst he
  unfold fin
  rw [if_pos hr, if_neg (by omega), h1, show (0 : Int) + (i : Int) = (i : Int) by omega, Int.toNat_natCast]

/-! ### the maps -/
abbrev DU := DataW Unit
/-- What the map of starts reads as. -/
def SOk (D : DU) (L : List H) : Prop := Maps.Tidy D ∧ Maps.size D = L.length ∧ (∀ x : Int, (∀ h ∈ L, h.f0 ≠ x) → ∀ z, D.atKey (.int .i64 x) z = z) ∧ (∀ h ∈ L, ∀ z, D.atKey (.int .i64 h.f0) z = .lit (.int .u64 h.f1))
def MOk (M : DU) (a : Int) : Prop := Maps.IsMap M ∧ ∀ x : Int, a ≤ x → Maps.has M (.int .i64 x) = false
theorem key_lit (x : Int) : WideAt.IsKeyLit (.int .i64 x) := trivial
theorem lit_ne {x y : Int} (h : x ≠ y) : (Lit.int .i64 x) ≠ (Lit.int .i64 y) := fun e => h (by injection e)
theorem SOk.empty : SOk (.map []) [] := ⟨Maps.tidy_empty, rfl, fun x _ z => rfl, fun h hh => by simp at hh⟩
theorem MOk.empty (a : Int) : MOk (.map []) a := ⟨Maps.isMap_empty, fun x _ => rfl⟩
theorem SOk.put {D : DU} {L : List H} (h : SOk D L) {a s : Int} (ha : ∀ x ∈ L, x.f0 ≠ a) : SOk (D.put (.int .i64 a) (.lit (.int .u64 s))) (L ++ [⟨a, s⟩]) := by
  obtain ⟨h1, h2, h3, h4⟩ := h
  refine ⟨h1.put (key_lit a) _, ?_, fun x hx z => ?_, fun y hy z => ?_⟩
  · rw [Maps.size_put h1, Maps.has_false_of_atKey (h3 a ha), h2]
    simp
  · have hxa : x ≠ a := fun e => hx ⟨a, s⟩ (by simp) e.symm
    rw [Maps.atKey_put_other (lit_ne hxa)]
    exact h3 x (fun y hy => hx y (by simp [hy])) z
  · rcases List.mem_append.1 hy with hy | hy
    · rw [Maps.atKey_put_other (lit_ne (ha y hy))]
      exact h4 y hy z
    · obtain rfl := List.mem_singleton.1 hy
      exact Maps.atKey_put_same h1.isMap (key_lit a) _ z
theorem SOk.del {D : DU} {L : List H} (h : SOk D L) (hp : Apart1 L) (j : Nat) (hj : j < L.length) : SOk (D.del (.int .i64 (L[j]).f0)) (L.eraseIdx j) := by
  obtain ⟨h1, h2, h3, h4⟩ := h
  refine ⟨?_, ?_, fun x hx z => ?_, fun y hy z => ?_⟩
  · obtain ⟨es, rfl, hpw⟩ := h1
    exact ⟨_, rfl, hpw.filter _⟩
  · have := Maps.size_del (k := .int .i64 (L[j]).f0) h1
    rw [Maps.has_true_of_atKey (fun z => h4 _ (List.getElem_mem hj) z), h2] at this
    rw [List.length_eraseIdx, if_pos hj]
    simp only [if_true] at this
    omega
  · by_cases e : x = (L[j]).f0
    · rw [e]; exact Maps.atKey_del_same z
    · rw [Maps.atKey_del_other (lit_ne e)]
      refine h3 x (fun y hy e2 => ?_) z
      obtain ⟨i, hi, rfl⟩ := List.getElem_of_mem hy
      by_cases hij : i = j
      · subst hij; exact e e2.symm
      · exact hx _ (List.mem_eraseIdx_iff_getElem.2 ⟨i, hi, hij, rfl⟩) e2
  · have hne := apart_erase hp j hj y hy
    rw [Maps.atKey_del_other (lit_ne hne)]
    exact h4 y (List.mem_of_mem_eraseIdx hy) z
theorem SOk.get {D : DU} {L : List H} (h : SOk D L) {x c : Int} (hx : ∀ z, D.atKey (.int .i64 x) z = .lit (.int .u64 c)) : ∃ y ∈ L, y.f0 = x ∧ y.f1 = c := by
  by_cases hn : ∀ y ∈ L, y.f0 ≠ x
  · have h1 := h.2.2.1 x hn (.lit (.bool true))
    rw [hx] at h1
    cases h1
  · have : ∃ y ∈ L, y.f0 = x := by
      apply Classical.byContradiction
      intro h2
      exact hn fun y hy e => h2 ⟨y, hy, e⟩
    obtain ⟨y, hy, e⟩ := this
    refine ⟨y, hy, e, ?_⟩
    have h1 := h.2.2.2 y hy (.lit (.bool true))
    rw [e, hx] at h1
    injection h1 with h1
    injection h1 with _ h1
    exact h1.symm
theorem MOk.put {M : DU} {a : Int} (h : MOk M a) : MOk (M.put (.int .i64 a) (.lit (.bool true))) (a + 1) := by
  refine ⟨h.1.put _ _, fun x hx => ?_⟩
  rw [Maps.has_put_other (lit_ne (show x ≠ a by omega))]
  exact h.2 x (by omega)

/-! ### a step -/
structure St (a : Int) (L : List H) (lst old : Int) (k : Nat) : Prop where
  r : right a L = true
  hi : ∀ h ∈ L, h.f1 ≤ lst
  lo : ∀ h ∈ L, old ≤ h.f1
  old0 : 0 ≤ old
  oldl : old ≤ lst
  lst49 : lst ≤ 49 * k
  ak : a ≤ k + 1
theorem St.start0 : St 1 [] 0 0 0 := ⟨by decide, fun h hh => by simp at hh, fun h hh => by simp at hh, by omega, by omega, by omega, by omega⟩
theorem St.later {a : Int} {L : List H} {lst old : Int} {k : Nat} (h : St a L lst old k) : St a L lst old (k + 1) := ⟨h.r, h.hi, h.lo, h.old0, h.oldl, by have := h.lst49; omega, by have := h.ak; omega⟩
theorem St.last {a : Int} {L : List H} {lst old : Int} {k : Nat} (h : St a L lst old k) : lastS 0 L ≤ lst := by
  by_cases hl : 0 < L.length
  · rw [lastS_get L 0 hl]; exact h.hi _ (List.getElem_mem _)
  · have : L = [] := List.length_eq_zero_iff.1 (by omega)
    subst this
    have := h.old0
    have := h.oldl
    simp only [lastS]
    omega
theorem St.beg {a : Int} {L : List H} {lst old nx : Int} {k : Nat} (h : St a L lst old k) (hk : k < 150) (h1 : lst ≤ nx) (h2 : nx ≤ lst + 49) : beg a L nx = if L.length = 64 then (0, [], 0, 6) else (a + 1, L ++ [⟨a, nx⟩], a, 0) := by
  have h3 := h.lst49
  have h4 := h.last
  have h5 := h.ak
  unfold G.beg
  rw [if_pos h.r, if_neg (by omega)]
  by_cases hl : L.length = 64
  · rw [if_pos (.inl hl), if_pos hl]
  · rw [if_neg (by omega), if_neg hl]
theorem St.opened {a : Int} {L : List H} {lst old nx : Int} {k : Nat} (h : St a L lst old k) (hk : k < 150) (h1 : lst ≤ nx) (h2 : nx ≤ lst + 49) (hl : L.length ≠ 64) : St (a + 1) (L ++ [⟨a, nx⟩]) nx old (k + 1) := by
  have h3 := h.lst49
  have h4 := h.last
  have h5 := h.ak
  have h6 := h.oldl
  have h7 := (right_len h.r).1
  refine ⟨right_snoc h.r (by omega) (by omega) (by omega) (by omega), fun y hy => ?_, fun y hy => ?_, h.old0, by omega, by omega, by omega⟩
  · rcases List.mem_append.1 hy with hy | hy
    · have := h.hi y hy; omega
    · obtain rfl := List.mem_singleton.1 hy; exact Int.le_refl _
  · rcases List.mem_append.1 hy with hy | hy
    · exact h.lo y hy
    · obtain rfl := List.mem_singleton.1 hy
      show old ≤ nx
      omega
theorem St.closed {a : Int} {L : List H} {lst old : Int} {k : Nat} (h : St a L lst old k) (j : Nat) : St a (L.eraseIdx j) lst old (k + 1) :=
  ⟨right_erase h.r j, fun y hy => h.hi y (List.mem_of_mem_eraseIdx hy), fun y hy => h.lo y (List.mem_of_mem_eraseIdx hy), h.old0, h.oldl, by have := h.lst49; omega, by have := h.ak; omega⟩
/-- The oldest of some is told; it becomes the oldest so far. -/
theorem St.told {a : Int} {y : H} {L : List H} {lst old : Int} {k : Nat} (h : St a (y :: L) lst old k) : old ≤ y.f1 ∧ St a (y :: L) lst y.f1 k := by
  have h1 := h.lo y (by simp)
  refine ⟨h1, h.r, h.hi, fun z hz => ?_, by have := h.old0; omega, h.hi y (by simp), h.lst49, h.ak⟩
  obtain ⟨_, _, _, _, h5⟩ := ok_parts (right_ok h.r)
  rcases List.mem_cons.1 hz with rfl | hz
  · exact Int.le_refl _
  · exact okFrom_lo a L _ _ h5 z hz
theorem St.apart {a : Int} {L : List H} {lst old : Int} {k : Nat} (h : St a L lst old k) : Apart1 L := num_pair L 0 0 (right_ok h.r)
theorem St.fresh {a : Int} {L : List H} {lst old : Int} {k : Nat} (h : St a L lst old k) : ∀ y ∈ L, y.f0 ≠ a := fun y hy e => by
  have := okFrom_num a L 0 0 (right_ok h.r) y hy
  omega

end Go.Proofs.Ytfpicgefmgnfnaa.G
