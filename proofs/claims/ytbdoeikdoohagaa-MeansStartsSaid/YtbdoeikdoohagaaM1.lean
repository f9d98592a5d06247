/- What whose centroid each is, a round and a training come to: plain. -/
import Derived.Test.YtbdoeikdoohagaaV1
import Derived.Test.YtbdoeikdoohagaaG8S
namespace Go.Proofs.Ytbdoeikdoohagaa.G
open Go.Shelf Go.RowKit Go.Proofs.YtbdoeikdoohagaaW.PrintWords Go.Proofs.YtbdoeikdoohagaaW.PrintLast Go.Proofs.YtbdoeikdoohagaaW.PrintMore
set_option linter.unusedVariables false
set_option linter.unusedSimpArgs false

theorem sumAt_perm (i : Nat) {l m : List (List Int)} (h : l.Perm m) : sumAt l i = sumAt m i := by
  induction h with
  | nil => rfl
  | cons x _ ih => simp only [sumAt, ih]
  | swap x y l => simp only [sumAt]; omega
  | trans _ _ a b => exact a.trans b
theorem meanV_perm {d : Nat} {l m : List (List Int)} (h : l.Perm m) (hl : okV d l) : meanV l = meanV m := by
  have e : (l.getD 0 []).length = (m.getD 0 []).length := by
    cases l with
    | nil => rw [List.nil_perm.1 h]
    | cons x l =>
      cases m with
      | nil => exact absurd (List.perm_nil.1 h) (by simp)
      | cons y m =>
        simp only [List.getD_cons_zero]
        rw [(hl x (by simp)).2, (hl y (h.mem_iff.2 (by simp))).2]
  unfold meanV
  rw [e, h.length_eq]
  simp only [sumAt_perm _ h]
theorem round_perm {d : Nat} {c l m : List (List Int)} (h : l.Perm m) (hl : okV d l) : roundV c l = roundV c m := by
  unfold roundV
  refine List.map_congr_left fun n _ => ?_
  have hp : (mineN c l n).Perm (mineN c m n) := h.filter _
  unfold new1
  by_cases e : mineN c l n = []
  · rw [if_pos e, if_pos (by rw [e] at hp; exact List.nil_perm.1 hp)]
  · rw [if_neg e, if_neg (fun e2 => e (by rw [e2] at hp; exact List.perm_nil.1 hp)), meanV_perm hp (mine_ok hl)]
theorem train_perm {d : Nat} {l m : List (List Int)} (h : l.Perm m) (hl : okV d l) : ∀ (k : Nat) (c : List (List Int)), trainL l k c = trainL m k c
  | 0, c => rfl
  | k + 1, c => by rw [trainL, trainL, round_perm h hl]; exact train_perm h hl k _

/-- A vector, moved by another one. -/
def sh (b v : List Int) : List Int := List.zipWith (· + ·) v b
theorem sh_len {b v : List Int} (h : v.length ≤ b.length) : (sh b v).length = v.length := by unfold sh; rw [List.length_zipWith]; omega
theorem sh_at {b v : List Int} (h : v.length ≤ b.length) (i : Nat) (hi : i < v.length) : (sh b v).getD i 0 = v.getD i 0 + b.getD i 0 := by
  rw [getD_of_lt _ i 0 (by rw [sh_len h]; exact hi), getD_of_lt v i 0 hi, getD_of_lt b i 0 (by omega)]
  simp [sh]
theorem sh_sq : ∀ (l m b : List Int), l.length = m.length → l.length ≤ b.length → sq ((sh b l).zip (sh b m)) = sq (l.zip m)
  | [], m, b, h, _ => by simp [sh, sq]
  | x :: l, [], b, h, _ => by simp at h
  | x :: l, y :: m, [], _, h => by simp at h
  | x :: l, y :: m, z :: b, h, h2 => by
    have ih := sh_sq l m b (by simpa using h) (by simpa using h2)
    unfold sh at ih ⊢
    simp only [List.zipWith_cons_cons, List.zip_cons_cons, sq, ih]
    rw [show x + z - (y + z) = x - y by omega]
theorem sh_dist {d : Nat} {b l m : List Int} (hl : right l = true ∧ l.length = d) (hm : right m = true ∧ m.length = d) (hl' : right (sh b l) = true) (hm' : right (sh b m) = true) (hb : d ≤ b.length) : distV (sh b l) (sh b m) = distV l m := by
  rw [distV_sq _ _ hl' hm', distV_sq l m hl.1 hm.1, sh_sq l m b (by omega) (by omega)]
theorem getD_mapR (c : List (List Int)) (f : List Int → List Int) (k : Nat) (h : k < c.length) : (c.map f).getD k [] = f (c.getD k []) := by
  rw [getD_of_lt _ k [] (by rw [List.length_map]; exact h), getD_of_lt c k [] h, List.getElem_map]
theorem sh_nst {d : Nat} {b : List Int} {c : List (List Int)} {v : List Int} (hc : okV d c) (hv : right v = true ∧ v.length = d) (hcs : okV d (c.map (sh b))) (hvs : right (sh b v) = true) (hb : d ≤ b.length) (h0 : 0 < c.length) : ∀ k, k ≤ c.length → nst (c.map (sh b)) (sh b v) k = nst c v k := by
  have hd : ∀ k, k < c.length → distV ((c.map (sh b)).getD k []) (sh b v) = distV (c.getD k []) v := fun k hk => by
    rw [getD_mapR c _ k hk]
    refine sh_dist (d := d) ?_ hv ?_ hvs hb
    · rw [getD_of_lt c k [] hk]; exact hc _ (List.getElem_mem hk)
    · rw [getD_of_lt c k [] hk]; exact (hcs _ (List.mem_map.2 ⟨_, List.getElem_mem hk, rfl⟩)).1
  intro k
  induction k with
  | zero => intro _; simp only [nst]; rw [hd 0 h0]
  | succ k ih =>
    intro hk
    simp only [nst]
    rw [ih (by omega), hd k (by omega)]
theorem sh_own {d : Nat} {b : List Int} {c : List (List Int)} {v : List Int} (hc : okV d c) (hv : right v = true ∧ v.length = d) (hcs : okV d (c.map (sh b))) (hvs : right (sh b v) = true) (hb : d ≤ b.length) (h0 : 0 < c.length) : own1 (c.map (sh b)) (sh b v) = own1 c v := by
  unfold own1
  rw [List.length_map, sh_nst hc hv hcs hvs hb h0 _ (Nat.le_refl _)]
theorem sh_mine {d : Nat} {b : List Int} {c : List (List Int)} (hc : okV d c) (hcs : okV d (c.map (sh b))) (hb : d ≤ b.length) (h0 : 0 < c.length) (n : Nat) : ∀ l : List (List Int), okV d l → okV d (l.map (sh b)) → mineN (c.map (sh b)) (l.map (sh b)) n = (mineN c l n).map (sh b)
  | [], _, _ => rfl
  | v :: l, hl, hls => by
    have h1 := ok_cons.1 hl
    have h2 := ok_cons.1 (show okV d (sh b v :: l.map (sh b)) from hls)
    have ih := sh_mine hc hcs hb h0 n l h1.2 h2.2
    unfold mineN at ih ⊢
    rw [List.map_cons, List.filter_cons, List.filter_cons, sh_own hc h1.1 hcs h2.1.1 hb h0, ih]
    split <;> rfl
theorem sh_sum {d : Nat} {b : List Int} (hb : d ≤ b.length) (i : Nat) (hi : i < d) : ∀ l : List (List Int), (∀ x ∈ l, x.length = d) → sumAt (l.map (sh b)) i = sumAt l i + l.length * b.getD i 0
  | [], _ => by simp [sumAt]
  | v :: l, h => by
    have h1 := h v (by simp)
    simp only [List.map_cons, sumAt, List.length_cons, Int.natCast_add, Int.add_mul]
    rw [sh_sum hb i hi l (fun x hx => h x (by simp [hx])), sh_at (by omega) i (by omega)]
    omega
theorem sh_mean {d : Nat} {b : List Int} (hb : d ≤ b.length) {l : List (List Int)} (hl : ∀ x ∈ l, x.length = d) (h0 : l ≠ []) : meanV (l.map (sh b)) = sh b (meanV l) := by
  have hp : 0 < l.length := List.length_pos_iff.2 h0
  have e1 : (l.getD 0 []).length = d := by rw [getD_of_lt l 0 [] hp]; exact hl _ (List.getElem_mem hp)
  have e2 : ((l.map (sh b)).getD 0 []).length = d := by rw [getD_mapR l _ 0 hp, sh_len (by omega), e1]
  have e3 : (meanV l).length = d := by rw [meanV_len0, e1]
  refine List.ext_getElem ?_ fun i h1 h2 => ?_
  · rw [meanV_len0, e2, sh_len (by omega), e3]
  · have hi : i < d := by rw [meanV_len0, e2] at h1; exact h1
    rw [← getD_of_lt _ i 0 h1, ← getD_of_lt _ i 0 h2, meanV_at0 _ i h1, sh_at (by omega) i (by omega), meanV_at0 _ i (by omega), sh_sum hb i hi l hl, List.length_map]
    rw [Int.add_mul_ediv_left _ _ (by omega)]
theorem sh_round {d : Nat} {b : List Int} {c l : List (List Int)} (hc : okV d c) (hcs : okV d (c.map (sh b))) (hb : d ≤ b.length) (hl : okV d l) (hls : okV d (l.map (sh b))) : roundV (c.map (sh b)) (l.map (sh b)) = (roundV c l).map (sh b) := by
  unfold roundV
  rw [List.length_map, List.map_map]
  refine List.map_congr_left fun n hn => ?_
  have hn' : n < c.length := List.mem_range.1 hn
  show new1 (c.map (sh b)) (l.map (sh b)) n = sh b (new1 c l n)
  unfold new1
  rw [sh_mine hc hcs hb (by omega) n l hl hls]
  by_cases e : mineN c l n = []
  · rw [if_pos e, if_pos (by rw [e]; rfl), getD_mapR c _ n hn']
  · rw [if_neg e, if_neg (by rw [List.map_eq_nil_iff]; exact e), sh_mean hb (fun x hx => (mine_ok hl x hx).2) e]
theorem sh_train {d : Nat} {b : List Int} {l : List (List Int)} (hb : d ≤ b.length) (hl : okV d l) (hls : okV d (l.map (sh b))) : ∀ (k : Nat) (c : List (List Int)), okV d c → okV d (c.map (sh b)) → trainL (l.map (sh b)) k (c.map (sh b)) = (trainL l k c).map (sh b)
  | 0, c, _, _ => rfl
  | k + 1, c, hc, hcs => by
    have e := sh_round hc hcs hb hl hls
    rw [trainL, trainL, e]
    exact sh_train hb hl hls k _ (round_ok hc hl) (by rw [← e]; exact round_ok hcs hls)
theorem pick_map (l : List (List Int)) (ds : List Int) (f : List Int → List Int) (h0 : 0 < l.length) : pick (l.map f) ds = (pick l ds).map f := by
  unfold pick
  rw [List.map_map, List.length_map]
  exact List.map_congr_left fun d _ => getD_mapR l f _ (Nat.mod_lt _ h0)

/-- A component between two numbers. -/
def inB (k : Nat) (lo hi : Int) (l : List (List Int)) : Prop := ∀ x ∈ l, lo ≤ x.getD k 0 ∧ x.getD k 0 ≤ hi
theorem round_in {d k : Nat} {lo hi : Int} {c l : List (List Int)} (hk : k < d) (hl : okV d l) (ic : inB k lo hi c) (il : inB k lo hi l) : inB k lo hi (roundV c l) := by
  intro x hx
  obtain ⟨n, hn, rfl⟩ := List.mem_map.1 hx
  have hn' : n < c.length := List.mem_range.1 hn
  unfold new1
  by_cases e : mineN c l n = []
  · rw [if_pos e, getD_of_lt c n [] hn']; exact ic _ (List.getElem_mem hn')
  · have hp : 0 < (mineN c l n).length := List.length_pos_iff.2 e
    rw [if_neg e, meanV_at0 _ k (by rw [(mean_ok (mine_ok hl) e).2]; exact hk)]
    exact mean_between0 _ hp k lo hi fun j hj => by
      rw [getD_of_lt _ j [] hj]
      exact il _ (List.mem_filter.1 (List.getElem_mem hj)).1
theorem train_in {d k : Nat} {lo hi : Int} {l : List (List Int)} (hk : k < d) (hl : okV d l) (il : inB k lo hi l) : ∀ (m : Nat) (c : List (List Int)), inB k lo hi c → inB k lo hi (trainL l m c)
  | 0, c, h => h
  | m + 1, c, h => train_in hk hl il m _ (round_in hk hl h il)

end Go.Proofs.Ytbdoeikdoohagaa.G
