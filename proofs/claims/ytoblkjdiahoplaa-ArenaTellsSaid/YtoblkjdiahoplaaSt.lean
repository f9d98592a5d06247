/- The stable sort of a row, in plain Lean: what the steps of the library function do, and that the whole is the stable insertion sort. No program is spoken of. -/
set_option linter.unusedVariables false
set_option linter.unusedSimpArgs false
namespace Go.Proofs.Ytoblkjdiahoplaa.G
section
variable {α : Type}

/-- A strict order whose equals are alike. -/
structure SO (lt : α → α → Bool) : Prop where
  asym : ∀ x y, lt x y = true → lt y x = false
  tr : ∀ x y z, lt y x = false → lt z y = false → lt z x = false
theorem SO.lt_le {lt : α → α → Bool} (h : SO lt) {x y z : α} (h1 : lt x y = true) (h2 : lt z y = false) : lt x z = true := by
  cases hh : lt x z with
  | true => rfl
  | false => have := h.tr y z x h2 hh; rw [h1] at this; exact absurd this (by simp)
theorem SO.le_lt {lt : α → α → Bool} (h : SO lt) {x y z : α} (h1 : lt y x = false) (h2 : lt y z = true) : lt x z = true := by
  cases hh : lt x z with
  | true => rfl
  | false => have := h.tr z x y hh h1; rw [h2] at this; exact absurd this (by simp)

abbrev Srt (lt : α → α → Bool) (l : List α) : Prop := l.Pairwise (fun x y => lt y x = false)

def mg (lt : α → α → Bool) : List α → List α → List α
  | [], R => R
  | l :: L, [] => l :: L
  | l :: L, r :: R => if lt r l then r :: mg lt (l :: L) R else l :: mg lt L (r :: R)
termination_by L R => L.length + R.length

theorem mg_nil_l (lt : α → α → Bool) (R : List α) : mg lt [] R = R := by rw [mg]
theorem mg_nil_r (lt : α → α → Bool) (L : List α) : mg lt L [] = L := by cases L <;> rw [mg]
theorem mg_len (lt : α → α → Bool) (L R : List α) : (mg lt L R).length = L.length + R.length := by
  fun_induction mg lt L R with
  | case1 R => simp
  | case2 l L => simp
  | case3 l L r R h ih => simp only [List.length_cons, ih]; omega
  | case4 l L r R h ih => simp only [List.length_cons, ih]; omega
theorem mg_mem (lt : α → α → Bool) (L R : List α) (x : α) : x ∈ mg lt L R ↔ x ∈ L ∨ x ∈ R := by
  fun_induction mg lt L R with
  | case1 R => simp
  | case2 l L => simp
  | case3 l L r R h ih => simp only [List.mem_cons, ih]; grind
  | case4 l L r R h ih => simp only [List.mem_cons, ih]; grind
theorem mg_sorted {lt : α → α → Bool} (h : SO lt) (L R : List α) (hL : Srt lt L) (hR : Srt lt R) : Srt lt (mg lt L R) := by
  fun_induction mg lt L R with
  | case1 R => exact hR
  | case2 l L => exact hL
  | case3 l L r R hh ih =>
    refine List.pairwise_cons.mpr ⟨fun x hx => ?_, ih hL (List.pairwise_cons.mp hR).2⟩
    rcases (mg_mem _ _ _ _).mp hx with hx | hx
    · rcases List.mem_cons.mp hx with rfl | hx
      · exact h.asym _ _ hh
      · exact h.tr _ _ _ (h.asym _ _ hh) ((List.pairwise_cons.mp hL).1 x hx)
    · exact (List.pairwise_cons.mp hR).1 x hx
  | case4 l L r R hh ih =>
    have hh' : lt r l = false := by simpa using hh
    refine List.pairwise_cons.mpr ⟨fun x hx => ?_, ih (List.pairwise_cons.mp hL).2 hR⟩
    rcases (mg_mem _ _ _ _).mp hx with hx | hx
    · exact (List.pairwise_cons.mp hL).1 x hx
    · rcases List.mem_cons.mp hx with rfl | hx
      · exact hh'
      · exact h.tr _ _ _ hh' ((List.pairwise_cons.mp hR).1 x hx)

theorem mg_all_le {lt : α → α → Bool} (L R : List α) (h : ∀ x ∈ L, ∀ y ∈ R, lt y x = false) : mg lt L R = L ++ R := by
  fun_induction mg lt L R with
  | case1 R => rfl
  | case2 l L => simp
  | case3 l L r R hh ih => have := h l (by simp) r (by simp); simp_all
  | case4 l L r R hh ih => rw [ih (fun x hx y hy => h x (by simp [hx]) y hy)]; rfl
theorem mg_all_gt {lt : α → α → Bool} (L R : List α) (h : ∀ x ∈ L, ∀ y ∈ R, lt y x = true) : mg lt L R = R ++ L := by
  fun_induction mg lt L R with
  | case1 R => simp
  | case2 l L => simp
  | case3 l L r R hh ih => rw [ih (fun x hx y hy => h x hx y (by simp [hy]))]; rfl
  | case4 l L r R hh ih => have := h l (by simp) r (by simp); simp_all

/-- The law of the cut. -/
theorem mg_cut {lt : α → α → Bool} (L1 L2 R1 R2 : List α) (h1 : ∀ x ∈ L1, ∀ y ∈ R2, lt y x = false) (h2 : ∀ x ∈ L2, ∀ y ∈ R1, lt y x = true) :
    mg lt (L1 ++ L2) (R1 ++ R2) = mg lt L1 R1 ++ mg lt L2 R2 := by
  fun_induction mg lt L1 R1 with
  | case1 R1 =>
    simp only [List.nil_append]
    induction R1 with
    | nil => rfl
    | cons r R1 ih =>
      cases L2 with
      | nil => rw [mg_nil_l, mg_nil_l]
      | cons x L2 =>
        simp only [List.cons_append]
        rw [mg, if_pos (h2 x (by simp) r (by simp)), ih (fun a ha y hy => h2 a ha y (by simp [hy]))]
  | case2 l L1 =>
    simp only [List.nil_append]
    have hl : ∀ x ∈ l :: L1, ∀ y ∈ R2, lt y x = false := h1
    clear h1 h2
    generalize l :: L1 = X0 at hl ⊢
    induction X0 with
    | nil => rfl
    | cons x X ih =>
      cases R2 with
      | nil => rw [mg_nil_r, mg_nil_r]
      | cons r R2 =>
        simp only [List.cons_append]
        rw [mg, if_neg (by rw [hl x (by simp) r (by simp)]; simp), ih (fun a ha y hy => hl a (by simp [ha]) y hy)]
  | case3 l L1 r R1 hh ih =>
    simp only [List.cons_append] at ih ⊢
    rw [mg, if_pos hh, ih h1 (fun a ha y hy => h2 a ha y (by simp [hy]))]
  | case4 l L1 r R1 hh ih =>
    simp only [List.cons_append] at ih ⊢
    rw [mg, if_neg hh, ih (fun a ha y hy => h1 a (by simp [ha]) y hy) h2]

/-- An element is laid in from behind. -/
def insRr (lt : α → α → Bool) (y : α) : List α → List α
  | [] => [y]
  | z :: Z => if lt y z then z :: insRr lt y Z else y :: z :: Z
def insR (lt : α → α → Bool) (y : α) (Z : List α) : List α := (insRr lt y Z.reverse).reverse
theorem insR_nil (lt : α → α → Bool) (y : α) : insR lt y [] = [y] := rfl
theorem insR_snoc (lt : α → α → Bool) (y z : α) (Z : List α) : insR lt y (Z ++ [z]) = if lt y z then insR lt y Z ++ [z] else Z ++ [z, y] := by
  unfold insR
  rw [List.reverse_append]
  simp only [List.reverse_cons, List.reverse_nil, List.nil_append, List.singleton_append, insRr]
  split <;> simp
theorem insR_app {lt : α → α → Bool} (y : α) (Z1 Z2 : List α) (h1 : ∀ z ∈ Z1, lt y z = false) (h2 : ∀ z ∈ Z2, lt y z = true) : insR lt y (Z1 ++ Z2) = Z1 ++ y :: Z2 := by
  have hr : ∀ (W : List α), (∀ z ∈ W, lt y z = true) → insRr lt y (W ++ Z1.reverse) = W ++ y :: Z1.reverse := by
    intro W hW
    induction W with
    | nil =>
      rw [List.nil_append, List.nil_append]
      cases hz : Z1.reverse with
      | nil => rfl
      | cons z Z =>
        have : z ∈ Z1 := List.mem_reverse.mp (by rw [hz]; simp)
        rw [insRr, if_neg (by rw [h1 z this]; simp)]
    | cons w W ih =>
      rw [List.cons_append, insRr, if_pos (hW w (by simp)), ih (fun z hz => hW z (by simp [hz]))]; rfl
  unfold insR
  rw [List.reverse_append, hr _ (fun z hz => h2 z (List.mem_reverse.mp hz))]
  simp
/-- A sorted row parts at an element. -/
theorem srt_parts {lt : α → α → Bool} (h : SO lt) (y : α) (Z : List α) (hZ : Srt lt Z) : ∃ Z1 Z2, Z = Z1 ++ Z2 ∧ (∀ z ∈ Z1, lt y z = false) ∧ ∀ z ∈ Z2, lt y z = true := by
  induction Z with
  | nil => exact ⟨[], [], rfl, by simp, by simp⟩
  | cons z Z ih =>
    have hz := List.pairwise_cons.mp hZ
    cases hlt : lt y z with
    | true =>
      refine ⟨[], z :: Z, rfl, by simp, fun x hx => ?_⟩
      rcases List.mem_cons.mp hx with rfl | hx
      · exact hlt
      · exact h.lt_le hlt (hz.1 x hx)
    | false =>
      obtain ⟨Z1, Z2, he, h1, h2⟩ := ih hz.2
      refine ⟨z :: Z1, Z2, by rw [he]; rfl, fun x hx => ?_, h2⟩
      rcases List.mem_cons.mp hx with rfl | hx
      · exact hlt
      · exact h1 x hx
theorem insR_sorted {lt : α → α → Bool} (h : SO lt) (y : α) (Z : List α) (hZ : Srt lt Z) : Srt lt (insR lt y Z) := by
  obtain ⟨Z1, Z2, rfl, h1, h2⟩ := srt_parts h y Z hZ
  rw [insR_app y Z1 Z2 h1 h2]
  have hp := List.pairwise_append.mp hZ
  refine List.pairwise_append.mpr ⟨hp.1, List.pairwise_cons.mpr ⟨fun z hz => h.asym _ _ (h2 z hz), hp.2.1⟩, fun a ha b hb => ?_⟩
  rcases List.mem_cons.mp hb with rfl | hb
  · exact h1 a ha
  · exact hp.2.2 a ha b hb
theorem insR_perm {lt : α → α → Bool} (y : α) (Z : List α) : (insR lt y Z).Perm (y :: Z) := by
  have : ∀ W, (insRr lt y W).Perm (y :: W) := by
    intro W
    induction W with
    | nil => exact .refl _
    | cons w W ih =>
      rw [insRr]
      split
      · exact (ih.cons w).trans (.swap y w W)
      · exact .refl _
  exact (List.reverse_perm _).trans ((this _).trans ((List.reverse_perm Z).cons y))
theorem insR_len {lt : α → α → Bool} (y : α) (Z : List α) : (insR lt y Z).length = Z.length + 1 := (insR_perm y Z).length_eq
def isort (lt : α → α → Bool) (l : List α) : List α := l.foldl (fun Z y => insR lt y Z) []
theorem isort_snoc (lt : α → α → Bool) (l : List α) (y : α) : isort lt (l ++ [y]) = insR lt y (isort lt l) := by
  unfold isort; rw [List.foldl_append]; rfl
theorem snoc_ind {P : List α → Prop} (h0 : P []) (h1 : ∀ l y, P l → P (l ++ [y])) (l : List α) : P l := by
  have : ∀ r : List α, P r.reverse := by
    intro r
    induction r with
    | nil => exact h0
    | cons y r ih => rw [List.reverse_cons]; exact h1 _ _ ih
  have h := this l.reverse
  rwa [List.reverse_reverse] at h
theorem isort_sorted {lt : α → α → Bool} (h : SO lt) (l : List α) : Srt lt (isort lt l) :=
  snoc_ind (P := fun l => Srt lt (isort lt l)) List.Pairwise.nil (fun l y ih => by rw [isort_snoc]; exact insR_sorted h y _ ih) l
theorem isort_perm {lt : α → α → Bool} (l : List α) : (isort lt l).Perm l :=
  snoc_ind (P := fun l => (isort lt l).Perm l) (.refl _) (fun l y ih => by rw [isort_snoc]; exact (insR_perm y _).trans ((ih.cons y).trans (List.perm_append_singleton y l).symm)) l
theorem isort_len {lt : α → α → Bool} (l : List α) : (isort lt l).length = l.length := (isort_perm l).length_eq
theorem isort_of_sorted {lt : α → α → Bool} (l : List α) : Srt lt l → isort lt l = l :=
  snoc_ind (P := fun l => Srt lt l → isort lt l = l) (fun _ => rfl) (fun l y ih hs => by
    have hp := List.pairwise_append.mp hs
    rw [isort_snoc, ih hp.1]
    have := insR_app (lt := lt) y l [] (fun z hz => hp.2.2 z hz y (by simp)) (by simp)
    rwa [List.append_nil] at this) l
theorem mg_insR {lt : α → α → Bool} (h : SO lt) (y : α) (A B : List α) (hA : Srt lt A) (hB : Srt lt B) : mg lt A (insR lt y B) = insR lt y (mg lt A B) := by
  obtain ⟨A1, A2, rfl, a1, a2⟩ := srt_parts h y A hA
  obtain ⟨B1, B2, rfl, b1, b2⟩ := srt_parts h y B hB
  rw [insR_app y B1 B2 b1 b2, mg_cut A1 A2 B1 B2 (fun x hx z hz => h.asym _ _ (h.le_lt (a1 x hx) (b2 z hz))) (fun x hx z hz => h.le_lt (b1 z hz) (a2 x hx))]
  rw [insR_app y (mg lt A1 B1) (mg lt A2 B2) (fun z hz => ((mg_mem _ _ _ _).mp hz).elim (a1 z) (b1 z)) (fun z hz => ((mg_mem _ _ _ _).mp hz).elim (a2 z) (b2 z))]
  rw [show B1 ++ y :: B2 = (B1 ++ [y]) ++ B2 by simp]
  rw [mg_cut A1 A2 (B1 ++ [y]) B2 (fun x hx z hz => h.asym _ _ (h.le_lt (a1 x hx) (b2 z hz))) (fun x hx z hz => by
    rcases List.mem_append.mp hz with hz | hz
    · exact h.le_lt (b1 z hz) (a2 x hx)
    · rw [List.mem_singleton.mp hz]; exact a2 x hx)]
  have e : mg lt A1 (B1 ++ [y]) = mg lt A1 B1 ++ [y] := by
    have := mg_cut (lt := lt) A1 [] B1 [y] (fun x hx z hz => by rw [List.mem_singleton.mp hz]; exact a1 x hx) (by simp)
    rwa [List.append_nil, mg_nil_l] at this
  rw [e]; simp
/-- Two halves that are sorted and merged are all sorted. -/
theorem mg_isort {lt : α → α → Bool} (h : SO lt) (X Y : List α) : mg lt (isort lt X) (isort lt Y) = isort lt (X ++ Y) :=
  snoc_ind (P := fun Y => mg lt (isort lt X) (isort lt Y) = isort lt (X ++ Y)) (by rw [List.append_nil]; exact mg_nil_r _ _)
    (fun l y ih => by rw [isort_snoc, mg_insR h y _ _ (isort_sorted h X) (isort_sorted h l), ih, ← List.append_assoc, isort_snoc]) Y

/-- The search by halves. -/
def bs (P : Nat → Bool) (i j : Nat) : Nat := if i < j then (if P ((i + j) / 2) then bs P ((i + j) / 2 + 1) j else bs P i ((i + j) / 2)) else i
termination_by j - i
theorem bs_t {P : Nat → Bool} {i j : Nat} (h : i < j) (hp : P ((i + j) / 2) = true) : bs P ((i + j) / 2 + 1) j = bs P i j := by rw [bs.eq_1 P i j, if_pos h, if_pos hp]
theorem bs_f {P : Nat → Bool} {i j : Nat} (h : i < j) (hp : P ((i + j) / 2) = false) : bs P i ((i + j) / 2) = bs P i j := by rw [bs.eq_1 P i j, if_pos h, if_neg (by rw [hp]; simp)]
theorem bs_e {P : Nat → Bool} {i j : Nat} (h : ¬ i < j) : i = bs P i j := by rw [bs, if_neg h]
theorem bs_spec (P : Nat → Bool) (i j : Nat) : i ≤ j → (∀ x y, i ≤ x → x ≤ y → y < j → P y = true → P x = true) → i ≤ bs P i j ∧ bs P i j ≤ j ∧ (∀ x, i ≤ x → x < bs P i j → P x = true) ∧ ∀ x, bs P i j ≤ x → x < j → P x = false := by
  fun_induction bs P i j with
  | case1 i j h hp ih =>
    intro hij hm
    obtain ⟨a, b, c, d⟩ := ih (by omega) (fun x y hx hxy hy => hm x y (by omega) hxy hy)
    refine ⟨by omega, b, fun x hx hxl => ?_, d⟩
    by_cases hx2 : x ≤ (i + j) / 2
    · exact hm x _ hx hx2 (by omega) hp
    · exact c x (by omega) hxl
  | case2 i j h hp ih =>
    intro hij hm
    have hp' : P ((i + j) / 2) = false := by simpa using hp
    obtain ⟨a, b, c, d⟩ := ih (by omega) (fun x y hx hxy hy => hm x y hx hxy (by omega))
    refine ⟨a, by omega, c, fun x hx hxj => ?_⟩
    by_cases hx2 : x < (i + j) / 2
    · exact d x hx hx2
    · cases hpx : P x with
      | false => rfl
      | true => have := hm ((i + j) / 2) x (by omega) (by omega) hxj hpx; rw [hp'] at this; exact absurd this (by simp)
  | case3 i j h =>
    intro hij hm
    exact ⟨Nat.le_refl _, hij, fun x hx hx2 => by omega, fun x hx hx2 => by omega⟩

/-- Two elements change their places. -/
def sw (z : α) (xs : List α) (i j : Nat) : List α := (xs.set i (xs.getD j z)).set j (xs.getD i z)
theorem sw_len (z : α) (xs : List α) (i j : Nat) : (sw z xs i j).length = xs.length := by simp [sw]
theorem getD_mid (z : α) (A : List α) (x : α) (B : List α) (i : Nat) (h : i = A.length) : (A ++ x :: B).getD i z = x := by subst h; simp
theorem set_mid (A : List α) (x y : α) (B : List α) (i : Nat) (h : i = A.length) : (A ++ x :: B).set i y = A ++ y :: B := by subst h; simp
theorem sw_app (z : α) (A B C : List α) (x y : α) (i j : Nat) (hi : i = A.length) (hj : j = A.length + 1 + B.length) : sw z (A ++ x :: (B ++ y :: C)) i j = A ++ y :: (B ++ x :: C) := by
  unfold sw
  rw [getD_mid z A x _ i hi]
  have e : A ++ x :: (B ++ y :: C) = (A ++ x :: B) ++ y :: C := by simp
  rw [show (A ++ x :: (B ++ y :: C)).getD j z = y by rw [e]; exact getD_mid z _ y C j (by simp; omega)]
  rw [set_mid A x y _ i hi, show A ++ y :: (B ++ y :: C) = (A ++ y :: B) ++ y :: C by simp, set_mid (A ++ y :: B) y x C j (by simp; omega)]
  simp
theorem sw_app2 (z : α) (A B C : List α) (x y : α) (i j : Nat) (hi : i = A.length + 1 + B.length) (hj : j = A.length) : sw z (A ++ x :: (B ++ y :: C)) i j = A ++ y :: (B ++ x :: C) := by
  unfold sw
  rw [getD_mid z A x _ j hj]
  have e : A ++ x :: (B ++ y :: C) = (A ++ x :: B) ++ y :: C := by simp
  rw [show (A ++ x :: (B ++ y :: C)).getD i z = y by rw [e]; exact getD_mid z _ y C i (by simp; omega)]
  rw [e, set_mid (A ++ x :: B) y x C i (by simp; omega), show (A ++ x :: B) ++ x :: C = A ++ x :: (B ++ x :: C) by simp, set_mid A x y _ j hj]
def upL (z : α) (k i : Nat) (xs : List α) : List α := if k + 1 < i then upL z (k + 1) i (sw z xs k (k + 1)) else xs
termination_by i - k
def dnL (z : α) (k i : Nat) (xs : List α) : List α := if i < k then dnL z (k - 1) i (sw z xs k (k - 1)) else xs
termination_by k - i
def swR (z : α) (a b n i : Nat) (xs : List α) : List α := if i < n then swR z a b n (i + 1) (sw z xs (a + i) (b + i)) else xs
termination_by n - i
def rotL (z : α) (m i j : Nat) (xs : List α) : List α :=
  if h : i = 0 ∨ j = 0 then xs else if i = j then swR z (m - i) m i 0 xs else if j < i then rotL z m (i - j) j (swR z (m - i) m j 0 xs) else rotL z m i (j - i) (swR z (m - i) (m + j - i) i 0 xs)
termination_by i + j
theorem upL_is (z : α) (X : List α) : ∀ (A C : List α) (x : α) (k i : Nat), k = A.length → i = A.length + 1 + X.length → upL z k i (A ++ x :: (X ++ C)) = A ++ (X ++ x :: C) := by
  induction X with
  | nil => intro A C x k i hk hi; rw [upL, if_neg (by simp at hi; omega)]; rfl
  | cons y X ih =>
    intro A C x k i hk hi
    rw [upL, if_pos (by simp at hi; omega)]
    have := sw_app z A [] (X ++ C) x y k (k + 1) hk (by simp; omega)
    simp only [List.nil_append] at this
    rw [List.cons_append, this]
    have h2 := ih (A ++ [y]) C x (k + 1) i (by simp; omega) (by simp at hi ⊢; omega)
    simp only [List.append_assoc, List.singleton_append, List.cons_append] at h2 ⊢
    exact h2
theorem dnL_is (z : α) (y : α) (X : List α) : ∀ (A C : List α) (k i : Nat), k = A.length + X.length → i = A.length → dnL z k i (A ++ (X ++ y :: C)) = A ++ (y :: X ++ C) :=
  snoc_ind (P := fun X => ∀ (A C : List α) (k i : Nat), k = A.length + X.length → i = A.length → dnL z k i (A ++ (X ++ y :: C)) = A ++ (y :: X ++ C))
    (fun A C k i hk hi => by rw [dnL, if_neg (by simp at hk; omega)]; rfl)
    (fun X x ih A C k i hk hi => by
      simp only [List.length_append, List.length_singleton] at hk
      rw [dnL, if_pos (by omega)]
      have := sw_app2 z (A ++ X) [] C x y k (k - 1) (by simp; omega) (by simp; omega)
      simp only [List.nil_append, List.append_assoc] at this
      simp only [List.append_assoc, List.singleton_append]
      rw [this, ih A (x :: C) (k - 1) i (by omega) hi]
      simp) X
theorem swR_is (z : α) (a b n : Nat) (X : List α) : ∀ (A B Y C : List α) (i : Nat), X.length = Y.length → a + i = A.length → b + i = A.length + X.length + B.length → n = i + X.length → swR z a b n i (A ++ (X ++ (B ++ (Y ++ C)))) = A ++ (Y ++ (B ++ (X ++ C))) := by
  induction X with
  | nil =>
    intro A B Y C i hl ha hb hn
    have hY : Y = [] := List.length_eq_zero_iff.mp hl.symm
    subst hY
    rw [swR, if_neg (by simp at hn; omega)]
  | cons x X ih =>
    intro A B Y C i hl ha hb hn
    cases Y with
    | nil => simp at hl
    | cons y Y =>
      simp only [List.length_cons] at hl hb hn
      rw [swR, if_pos (by omega)]
      have h1 := sw_app z A (X ++ B) (Y ++ C) x y (a + i) (b + i) ha (by simp; omega)
      simp only [List.append_assoc] at h1
      simp only [List.cons_append]
      rw [h1]
      have h2 := ih (A ++ [y]) (B ++ [x]) Y C (i + 1) (by omega) (by simp; omega) (by simp; omega) (by omega)
      simp only [List.append_assoc, List.cons_append, List.nil_append] at h2 ⊢
      rw [h2]
theorem rotL_is (z : α) (m : Nat) : ∀ (s : Nat) (i j : Nat) (A X Y C : List α), i + j ≤ s → X.length = i → Y.length = j → m = A.length + i → rotL z m i j (A ++ (X ++ (Y ++ C))) = A ++ (Y ++ (X ++ C)) := by
  intro s
  induction s with
  | zero =>
    intro i j A X Y C hs hX hY hm
    have hX0 : X = [] := List.length_eq_zero_iff.mp (by omega)
    subst hX0
    rw [rotL, dif_pos (.inl (by omega))]; rfl
  | succ s ih =>
    intro i j A X Y C hs hX hY hm
    rw [rotL]
    split
    · rename_i h0
      rcases h0 with h0 | h0
      · have hX0 : X = [] := List.length_eq_zero_iff.mp (by omega)
        subst hX0; rfl
      · have hY0 : Y = [] := List.length_eq_zero_iff.mp (by omega)
        subst hY0; rfl
    · rename_i h0
      split
      · have := swR_is z (m - i) m i X A [] Y C 0 (by omega) (by omega) (by simp; omega) (by omega)
        simpa using this
      · split
        · rename_i h1 h2
          obtain ⟨X1, X2, rfl, hX1⟩ : ∃ X1 X2, X = X1 ++ X2 ∧ X1.length = j := ⟨X.take j, X.drop j, (List.take_append_drop _ _).symm, by simp; omega⟩
          simp only [List.length_append] at hX
          have := swR_is z (m - i) m j X1 A X2 Y C 0 (by omega) (by omega) (by simp; omega) (by omega)
          simp only [List.append_assoc]
          rw [this]
          have h3 := ih (i - j) j (A ++ Y) X2 X1 C (by omega) (by omega) hX1 (by simp; omega)
          simp only [List.append_assoc] at h3
          exact h3
        · rename_i h1 h2
          obtain ⟨Y1, Y2, rfl, hY2⟩ : ∃ Y1 Y2, Y = Y1 ++ Y2 ∧ Y2.length = i := ⟨Y.take (j - i), Y.drop (j - i), (List.take_append_drop _ _).symm, by simp; omega⟩
          simp only [List.length_append] at hY
          have := swR_is z (m - i) (m + j - i) i X A Y1 Y2 C 0 (by omega) (by omega) (by simp; omega) (by omega)
          simp only [List.append_assoc]
          rw [this]
          have h3 := ih i (j - i) A Y2 Y1 (X ++ C) (by omega) hY2 (by omega) hm
          rw [h3]

theorem getD_lt (l : List α) (z : α) {i : Nat} (h : i < l.length) : l.getD i z = l[i] := by simp [List.getD_eq_getElem?_getD, List.getElem?_eq_getElem h]
theorem srt_getD {lt : α → α → Bool} (h : SO lt) (z : α) (l : List α) (hl : Srt lt l) (i j : Nat) (hij : i ≤ j) (hj : j < l.length) : lt (l.getD j z) (l.getD i z) = false := by
  rw [getD_lt _ _ hj, getD_lt _ _ (show i < l.length by omega)]
  by_cases e : i = j
  · subst e
    cases hh : lt l[i] l[i] with
    | false => rfl
    | true => have := h.asym _ _ hh; rw [hh] at this; exact absurd this (by simp)
  · exact List.pairwise_iff_getElem.mp hl i j (by omega) hj (by omega)
theorem take_mem (z : α) (l : List α) (k : Nat) (x : α) (h : x ∈ l.take k) : ∃ i, i < k ∧ i < l.length ∧ l.getD i z = x := by
  obtain ⟨i, hi, e⟩ := List.mem_iff_getElem.mp h
  rw [List.length_take] at hi
  exact ⟨i, by omega, by omega, by rw [getD_lt _ _ (show i < l.length by omega), ← e, List.getElem_take]⟩
theorem drop_mem (z : α) (l : List α) (k : Nat) (x : α) (h : x ∈ l.drop k) : ∃ i, k ≤ i ∧ i < l.length ∧ l.getD i z = x := by
  obtain ⟨i, hi, e⟩ := List.mem_iff_getElem.mp h
  rw [List.length_drop] at hi
  exact ⟨k + i, by omega, by omega, by rw [getD_lt _ _ (show k + i < l.length by omega), ← e, List.getElem_drop]⟩
theorem getD_in (z : α) (A L C : List α) (k : Nat) (h0 : A.length ≤ k) (h1 : k < A.length + L.length) : (A ++ (L ++ C)).getD k z = L.getD (k - A.length) z := by
  rw [List.getD_eq_getElem?_getD, List.getD_eq_getElem?_getD, List.getElem?_append_right h0, List.getElem?_append_left (by omega)]

def symM (z : α) (lt : α → α → Bool) : Nat → Nat → Nat → Nat → List α → List α
  | 0, _, _, _, xs => xs
  | f + 1, a, m, b, xs =>
    if m = a + 1 then upL z a (bs (fun h => lt (xs.getD h z) (xs.getD a z)) m b) xs
    else if b = m + 1 then dnL z m (bs (fun h => !lt (xs.getD m z) (xs.getD h z)) a m) xs
    else
      let mid := (a + b) / 2
      let n := mid + m
      let start := bs (fun c => !lt (xs.getD (n - 1 - c) z) (xs.getD c z)) (if mid < m then n - b else a) (if mid < m then mid else m)
      let e := n - start
      let x1 := if start < m ∧ m < e then rotL z m (m - start) (e - m) xs else xs
      let x2 := if a < start ∧ start < mid then symM z lt f a start mid x1 else x1
      if mid < e ∧ e < b then symM z lt f mid e b x2 else x2

theorem symM_is (z : α) {lt : α → α → Bool} (h : SO lt) : ∀ (f a m b : Nat) (A L R C : List α), A.length = a → L.length = m - a → R.length = b - m → a < m → m < b → b - a ≤ f → Srt lt L → Srt lt R →
    symM z lt f a m b (A ++ (L ++ (R ++ C))) = A ++ (mg lt L R ++ C) := by
  intro f
  induction f with
  | zero => intro a m b A L R C hA hL hR ham hmb hf; omega
  | succ f ih =>
    intro a m b A L R C hA hL hR ham hmb hf sL sR
    have eL : ∀ k, a ≤ k → k < m → (A ++ (L ++ (R ++ C))).getD k z = L.getD (k - a) z := fun k h0 h1 => by rw [getD_in z A L _ k (by omega) (by omega), hA]
    have eR : ∀ k, m ≤ k → k < b → (A ++ (L ++ (R ++ C))).getD k z = R.getD (k - m) z := fun k h0 h1 => by
      rw [show A ++ (L ++ (R ++ C)) = (A ++ L) ++ (R ++ C) by simp, getD_in z (A ++ L) R C k (by simp; omega) (by simp; omega)]
      congr 1; simp; omega
    rw [symM]
    split
    · rename_i h1
      obtain ⟨x, rfl⟩ : ∃ x, L = [x] := List.length_eq_one_iff.mp (by omega)
      have ex : (A ++ ([x] ++ (R ++ C))).getD a z = x := by rw [eL a (by omega) (by omega), Nat.sub_self]; rfl
      rw [ex]
      obtain ⟨s1, s2, s3, s4⟩ := bs_spec (fun k => lt ((A ++ ([x] ++ (R ++ C))).getD k z) x) m b (by omega) (fun u v hu huv hv hp => by
        rw [eR u (by omega) (by omega)]
        rw [eR v (by omega) hv] at hp
        exact h.le_lt (srt_getD h z R sR (u - m) (v - m) (by omega) (by omega)) hp)
      revert s1 s2 s3 s4
      generalize bs (fun k => lt ((A ++ ([x] ++ (R ++ C))).getD k z) x) m b = s
      intro s1 s2 s3 s4
      have hc := mg_cut (lt := lt) [] [x] (R.take (s - m)) (R.drop (s - m)) (by simp) (fun u hu y hy => by
        rw [List.mem_singleton.mp hu]
        obtain ⟨i, i1, i2, rfl⟩ := take_mem z R _ y hy
        have := s3 (m + i) (by omega) (by omega)
        rwa [eR (m + i) (by omega) (by omega), Nat.add_sub_cancel_left] at this)
      rw [List.take_append_drop, List.nil_append, mg_nil_l, mg_all_le (lt := lt) [x] (R.drop (s - m)) (fun u hu y hy => by
        rw [List.mem_singleton.mp hu]
        obtain ⟨i, i1, i2, rfl⟩ := drop_mem z R _ y hy
        have := s4 (m + i) (by omega) (by omega)
        rwa [eR (m + i) (by omega) (by omega), Nat.add_sub_cancel_left] at this)] at hc
      rw [hc]
      have hu := upL_is z (R.take (s - m)) A (R.drop (s - m) ++ C) x a s hA.symm (by rw [List.length_take]; omega)
      rw [← List.append_assoc (R.take (s - m)), List.take_append_drop] at hu
      rw [show A ++ ([x] ++ (R ++ C)) = A ++ x :: (R ++ C) by rfl, hu]
      simp
    · rename_i hm1
      split
      · rename_i h1
        obtain ⟨y, rfl⟩ : ∃ y, R = [y] := List.length_eq_one_iff.mp (by omega)
        have ey : (A ++ (L ++ ([y] ++ C))).getD m z = y := by rw [eR m (by omega) (by omega), Nat.sub_self]; rfl
        rw [ey]
        obtain ⟨s1, s2, s3, s4⟩ := bs_spec (fun k => !lt y ((A ++ (L ++ ([y] ++ C))).getD k z)) a m (by omega) (fun u v hu huv hv hp => by
          simp only [Bool.not_eq_true'] at hp ⊢
          rw [eL u (by omega) (by omega)]
          rw [eL v (by omega) hv] at hp
          exact h.tr _ _ _ (srt_getD h z L sL (u - a) (v - a) (by omega) (by omega)) hp)
        revert s1 s2 s3 s4
        generalize bs (fun k => !lt y ((A ++ (L ++ ([y] ++ C))).getD k z)) a m = s
        intro s1 s2 s3 s4
        have hc := mg_cut (lt := lt) (L.take (s - a)) (L.drop (s - a)) [] [y] (fun u hu w hw => by
          rw [List.mem_singleton.mp hw]
          obtain ⟨i, i1, i2, rfl⟩ := take_mem z L _ u hu
          have := s3 (a + i) (by omega) (by omega)
          simp only [Bool.not_eq_true'] at this
          rwa [eL (a + i) (by omega) (by omega), Nat.add_sub_cancel_left] at this) (by simp)
        rw [List.take_append_drop, List.nil_append, mg_nil_r, mg_all_gt (lt := lt) (L.drop (s - a)) [y] (fun u hu w hw => by
          rw [List.mem_singleton.mp hw]
          obtain ⟨i, i1, i2, rfl⟩ := drop_mem z L _ u hu
          have := s4 (a + i) (by omega) (by omega)
          simp only [Bool.not_eq_false'] at this
          rwa [eL (a + i) (by omega) (by omega), Nat.add_sub_cancel_left] at this)] at hc
        rw [hc]
        have hu := dnL_is z y (L.drop (s - a)) (A ++ L.take (s - a)) C m s (by simp; omega) (by simp; omega)
        rw [List.append_assoc, ← List.append_assoc (L.take (s - a)), List.take_append_drop] at hu
        rw [show A ++ (L ++ ([y] ++ C)) = A ++ (L ++ y :: C) by rfl, hu]
        simp
      · rename_i hb1
        obtain ⟨mid, hmid⟩ : ∃ mid, mid = (a + b) / 2 := ⟨_, rfl⟩
        rw [← hmid]
        simp only
        have p1 : 2 * mid ≤ a + b := by omega
        have p2 : a + b ≤ 2 * mid + 1 := by omega
        clear hmid
        obtain ⟨s0, hs0⟩ : ∃ s0, s0 = if mid < m then mid + m - b else a := ⟨_, rfl⟩
        obtain ⟨r0, hr0⟩ : ∃ r0, r0 = if mid < m then mid else m := ⟨_, rfl⟩
        rw [← hs0, ← hr0]
        have q1 : a ≤ s0 := by split at hs0 <;> omega
        have q2 : r0 ≤ m := by split at hr0 <;> omega
        have q3 : s0 ≤ r0 := by split at hs0 <;> split at hr0 <;> omega
        have q4 : mid + m ≤ s0 + b := by split at hs0 <;> omega
        have q5 : r0 ≤ mid := by split at hr0 <;> omega
        have q6 : s0 = a ∨ s0 + b = mid + m := by split at hs0 <;> omega
        have q7 : r0 = m ∨ r0 = mid := by split at hr0 <;> omega
        clear hs0 hr0
        obtain ⟨s1, s2, s3, s4⟩ := bs_spec (fun c => !lt ((A ++ (L ++ (R ++ C))).getD (mid + m - 1 - c) z) ((A ++ (L ++ (R ++ C))).getD c z)) s0 r0 q3 (fun u v hu huv hv hp => by
          simp only [Bool.not_eq_true'] at hp ⊢
          rw [eL u (by omega) (by omega), eR _ (by omega) (by omega)]
          rw [eL v (by omega) (by omega), eR _ (by omega) (by omega)] at hp
          exact h.tr _ _ _ (srt_getD h z L sL (u - a) (v - a) (by omega) (by omega)) (h.tr _ _ _ hp (srt_getD h z R sR (mid + m - 1 - v - m) (mid + m - 1 - u - m) (by omega) (by omega))))
        revert s1 s2 s3 s4
        generalize bs (fun c => !lt ((A ++ (L ++ (R ++ C))).getD (mid + m - 1 - c) z) ((A ++ (L ++ (R ++ C))).getD c z)) s0 r0 = s
        intro s1 s2 s3 s4
        obtain ⟨e, he⟩ : ∃ e, e = mid + m - s := ⟨_, rfl⟩
        rw [← he]
        obtain ⟨L1, L2, rfl, hL1⟩ : ∃ L1 L2, L = L1 ++ L2 ∧ L1.length = s - a := ⟨L.take (s - a), L.drop (s - a), (List.take_append_drop _ _).symm, by simp; omega⟩
        obtain ⟨R1, R2, rfl, hR1⟩ : ∃ R1 R2, R = R1 ++ R2 ∧ R1.length = e - m := ⟨R.take (e - m), R.drop (e - m), (List.take_append_drop _ _).symm, by simp; omega⟩
        have hL2 : L2.length = m - s := by simp at hL; omega
        have hR2 : R2.length = b - e := by simp at hR; omega
        have c1 : ∀ x ∈ L1, ∀ y ∈ R2, lt y x = false := by
          intro x hx y hy
          obtain ⟨i, i1, hxi⟩ := List.mem_iff_getElem.mp hx
          obtain ⟨k, k1, hyk⟩ := List.mem_iff_getElem.mp hy
          have hs : s0 < s := by
            rcases q6 with q | q <;> omega
          have := s3 (s - 1) (by omega) (by omega)
          simp only [Bool.not_eq_true'] at this
          rw [eL (s - 1) (by omega) (by omega), eR _ (by omega) (by omega)] at this
          have f1 := srt_getD h z (L1 ++ L2) sL i (s - 1 - a) (by omega) (by simp; omega)
          have f2 := srt_getD h z (R1 ++ R2) sR (mid + m - 1 - (s - 1) - m) (R1.length + k) (by omega) (by simp; omega)
          have g1 : (L1 ++ L2).getD i z = x := by rw [getD_lt _ _ (by simp; omega), ← hxi, List.getElem_append_left]
          have g2 : (R1 ++ R2).getD (R1.length + k) z = y := by rw [getD_lt _ _ (by simp; omega), ← hyk, List.getElem_append_right (by omega)]; congr 1; omega
          rw [← g1, ← g2]
          exact h.tr _ _ _ f1 (h.tr _ _ _ this f2)
        have c2 : ∀ x ∈ L2, ∀ y ∈ R1, lt y x = true := by
          intro x hx y hy
          obtain ⟨i, i1, hxi⟩ := List.mem_iff_getElem.mp hx
          obtain ⟨k, k1, hyk⟩ := List.mem_iff_getElem.mp hy
          have hs : s < r0 := by
            rcases q7 with q | q <;> omega
          have := s4 s (by omega) hs
          simp only [Bool.not_eq_false'] at this
          rw [eL s (by omega) (by omega), eR _ (by omega) (by omega)] at this
          have f1 := srt_getD h z (L1 ++ L2) sL (s - a) (L1.length + i) (by omega) (by simp; omega)
          have f2 := srt_getD h z (R1 ++ R2) sR k (mid + m - 1 - s - m) (by omega) (by simp; omega)
          have g1 : (L1 ++ L2).getD (L1.length + i) z = x := by rw [getD_lt _ _ (by simp; omega), ← hxi, List.getElem_append_right (by omega)]; congr 1; omega
          have g2 : (R1 ++ R2).getD k z = y := by rw [getD_lt _ _ (by simp; omega), ← hyk, List.getElem_append_left]
          rw [← g1, ← g2]
          exact h.lt_le (h.le_lt f2 this) f1
        rw [mg_cut L1 L2 R1 R2 c1 c2]
        have sL' := List.pairwise_append.mp sL
        have sR' := List.pairwise_append.mp sR
        have x1 : (if s < m ∧ m < e then rotL z m (m - s) (e - m) (A ++ (L1 ++ L2 ++ (R1 ++ R2 ++ C))) else A ++ (L1 ++ L2 ++ (R1 ++ R2 ++ C))) = A ++ (L1 ++ (R1 ++ (L2 ++ (R2 ++ C)))) := by
          split
          · have := rotL_is z m (m - s + (e - m)) (m - s) (e - m) (A ++ L1) L2 R1 (R2 ++ C) (Nat.le_refl _) hL2 hR1 (by simp; omega)
            simpa using this
          · rename_i hn
            by_cases hs : s < m
            · have : R1 = [] := List.length_eq_zero_iff.mp (by omega)
              subst this; simp
            · have : L2 = [] := List.length_eq_zero_iff.mp (by omega)
              subst this; simp
        rw [x1]
        have x2 : (if a < s ∧ s < mid then symM z lt f a s mid (A ++ (L1 ++ (R1 ++ (L2 ++ (R2 ++ C))))) else A ++ (L1 ++ (R1 ++ (L2 ++ (R2 ++ C))))) = A ++ (mg lt L1 R1 ++ (L2 ++ (R2 ++ C))) := by
          split
          · exact ih a s mid A L1 R1 _ hA hL1 (by omega) (by omega) (by omega) (by omega) sL'.1 sR'.1
          · rename_i hn
            by_cases hs : a < s
            · have : R1 = [] := List.length_eq_zero_iff.mp (by omega)
              subst this; rw [mg_nil_r]; simp
            · have : L1 = [] := List.length_eq_zero_iff.mp (by omega)
              subst this; rw [mg_nil_l]; simp
        rw [x2]
        split
        · have := ih mid e b (A ++ mg lt L1 R1) L2 R2 C (by rw [List.length_append, mg_len]; omega) (by omega) (by omega) (by omega) (by omega) (by omega) sL'.2.1 sR'.2.1
          simp only [List.append_assoc] at this ⊢
          exact this
        · rename_i hn
          by_cases hs : mid < e
          · have : R2 = [] := List.length_eq_zero_iff.mp (by omega)
            subst this; rw [mg_nil_r]; simp
          · have : L2 = [] := List.length_eq_zero_iff.mp (by omega)
            subst this; rw [mg_nil_l]; simp

/-- The inner loop of the insertion sort. -/
def insG (z : α) (lt : α → α → Bool) (a : Nat) : Nat → List α → List α
  | 0, xs => xs
  | j + 1, xs => if a < j + 1 ∧ lt (xs.getD (j + 1) z) (xs.getD j z) = true then insG z lt a j (sw z xs (j + 1) j) else xs
def insO (z : α) (lt : α → α → Bool) (a b : Nat) (xs : List α) : List α := (List.range' (a + 1) (b - (a + 1))).foldl (fun ys i => insG z lt a i ys) xs
theorem insG_is (z : α) (lt : α → α → Bool) (a : Nat) (y : α) (A : List α) (hA : A.length = a) (Z : List α) : ∀ (C : List α) (j : Nat), j = a + Z.length → insG z lt a j (A ++ (Z ++ y :: C)) = A ++ (insR lt y Z ++ C) :=
  snoc_ind (P := fun Z => ∀ (C : List α) (j : Nat), j = a + Z.length → insG z lt a j (A ++ (Z ++ y :: C)) = A ++ (insR lt y Z ++ C))
    (fun C j hj => by
      have hj : j = a := by simpa using hj
      subst hj
      cases j with
      | zero => rfl
      | succ j => rw [insG, if_neg (fun h => Nat.lt_irrefl _ h.1)]; rfl)
    (fun Z x ih C j hj => by
      obtain ⟨i, rfl⟩ : ∃ i, j = i + 1 := ⟨a + Z.length, by rw [hj, List.length_append]; rfl⟩
      have hi : i = a + Z.length := by rw [List.length_append] at hj; simp at hj; omega
      have e : A ++ (Z ++ [x] ++ y :: C) = (A ++ Z) ++ x :: ([] ++ y :: C) := by simp
      rw [insG, insR_snoc]
      have g1 : (A ++ (Z ++ [x] ++ y :: C)).getD i z = x := by rw [e]; exact getD_mid z _ x _ i (by simp; omega)
      have g2 : (A ++ (Z ++ [x] ++ y :: C)).getD (i + 1) z = y := by rw [show A ++ (Z ++ [x] ++ y :: C) = (A ++ (Z ++ [x])) ++ y :: C by simp]; exact getD_mid z _ y _ _ (by simp; omega)
      rw [g1, g2]
      by_cases hl : lt y x = true
      · rw [if_pos ⟨by omega, hl⟩, if_pos hl, e, sw_app2 z (A ++ Z) [] C x y (i + 1) i (by simp; omega) (by simp; omega)]
        have := ih (x :: C) i hi
        simp only [List.append_assoc, List.nil_append] at this ⊢
        rw [this]; simp
      · rw [if_neg (fun h => hl h.2), if_neg hl]; simp) Z
theorem insO_is (z : α) (lt : α → α → Bool) (a : Nat) (A : List α) (hA : A.length = a) (X : List α) : ∀ (C : List α) (b : Nat), b = a + X.length → insO z lt a b (A ++ (X ++ C)) = A ++ (isort lt X ++ C) :=
  snoc_ind (P := fun X => ∀ (C : List α) (b : Nat), b = a + X.length → insO z lt a b (A ++ (X ++ C)) = A ++ (isort lt X ++ C))
    (fun C b hb => by
      have hb : b = a := by simpa using hb
      unfold insO; rw [show b - (a + 1) = 0 by omega]; rfl)
    (fun X y ih C b hb => by
      have hb : b = a + X.length + 1 := by rw [List.length_append] at hb; simp at hb; omega
      have h1 := ih (y :: C) (a + X.length) rfl
      rw [isort_snoc]
      by_cases h0 : X.length = 0
      · have : X = [] := List.length_eq_zero_iff.mp h0
        subst this
        unfold insO; rw [show b - (a + 1) = 0 by simp at hb; omega]; rfl
      · unfold insO at h1 ⊢
        rw [show b - (a + 1) = (a + X.length - (a + 1)) + 1 by omega, List.range'_concat, List.foldl_append, show A ++ (X ++ [y] ++ C) = A ++ (X ++ y :: C) by simp, h1]
        simp only [List.foldl_cons, List.foldl_nil]
        have := insG_is z lt a y A hA (isort lt X) C (a + 1 + 1 * (a + X.length - (a + 1))) (by rw [isort_len]; omega)
        rw [this]) X
/-- Sorted block by block. -/
def bsort (lt : α → α → Bool) (s : Nat) (xs : List α) : List α := if h : 0 < s ∧ s < xs.length then isort lt (xs.take s) ++ bsort lt s (xs.drop s) else isort lt xs
termination_by xs.length
decreasing_by rw [List.length_drop]; omega
theorem bsort_fin (lt : α → α → Bool) (s : Nat) (xs : List α) (h : xs.length ≤ s) : bsort lt s xs = isort lt xs := by rw [bsort, dif_neg (by omega)]
theorem bsort_one (lt : α → α → Bool) (s : Nat) (hs : 0 < s) (X Y : List α) (h : X.length = s) : bsort lt s (X ++ Y) = isort lt X ++ bsort lt s Y := by
  rw [bsort.eq_1 lt s (X ++ Y)]
  split
  · rw [List.take_left' h, List.drop_left' h]
  · rename_i hn
    have : Y = [] := List.length_eq_zero_iff.mp (by simp at hn; omega)
    subst this
    rw [bsort_fin lt s [] (by simp), List.append_nil, show isort lt ([] : List α) = [] by rfl, List.append_nil]
theorem bsort_app (lt : α → α → Bool) (s : Nat) (hs : 0 < s) : ∀ (k : Nat) (X Y : List α), X.length = s * k → bsort lt s (X ++ Y) = bsort lt s X ++ bsort lt s Y := by
  intro k
  induction k with
  | zero => intro X Y h; have : X = [] := List.length_eq_zero_iff.mp (by simpa using h); subst this; rw [bsort_fin lt s [] (by simp)]; rfl
  | succ k ih =>
    intro X Y h
    have h' : X.length = s * k + s := by rw [h, Nat.mul_succ]
    obtain ⟨X1, X2, rfl, hX1⟩ : ∃ X1 X2, X = X1 ++ X2 ∧ X1.length = s := ⟨X.take s, X.drop s, (List.take_append_drop _ _).symm, by simp; omega⟩
    rw [List.append_assoc, bsort_one lt s hs X1 _ hX1, bsort_one lt s hs X1 _ hX1, ih X2 Y (by simp at h'; omega), List.append_assoc]
theorem bsort_len (lt : α → α → Bool) (s : Nat) (xs : List α) : (bsort lt s xs).length = xs.length := by
  fun_induction bsort lt s xs with
  | case1 xs h ih => rw [List.length_append, isort_len, ih]; simp; omega
  | case2 xs h => exact isort_len xs
theorem take_add' (xs : List α) (a s : Nat) : xs.take (a + s) = xs.take a ++ (xs.drop a).take s := List.take_add
theorem ph1_step (z : α) (lt : α → α → Bool) (xs : List α) (s k a b : Nat) (hs : 0 < s) (ha : a = s * k) (hb : b = a + s) (hn : b ≤ xs.length) :
    insO z lt a b (bsort lt s (xs.take a) ++ xs.drop a) = bsort lt s (xs.take b) ++ xs.drop b := by
  obtain ⟨X, Y, Z, rfl, hX, hY⟩ : ∃ X Y Z, xs = X ++ (Y ++ Z) ∧ X.length = a ∧ Y.length = s := ⟨xs.take a, (xs.drop a).take s, (xs.drop a).drop s, by simp only [List.take_append_drop], by simp; omega, by simp; omega⟩
  rw [List.take_left' hX, List.drop_left' hX]
  have h1 := insO_is z lt a (bsort lt s X) (by rw [bsort_len, hX]) Y Z b (by omega)
  rw [h1, show X ++ (Y ++ Z) = (X ++ Y) ++ Z by simp, List.take_left' (show (X ++ Y).length = b by simp; omega), List.drop_left' (show (X ++ Y).length = b by simp; omega), bsort_app lt s hs k X Y (by omega), bsort_fin lt s Y (by omega)]
  simp
theorem ph1_end (z : α) (lt : α → α → Bool) (xs : List α) (s k a : Nat) (hs : 0 < s) (ha : a = s * k) (han : a ≤ xs.length) (hn : xs.length < a + s) :
    insO z lt a xs.length (bsort lt s (xs.take a) ++ xs.drop a) = bsort lt s xs := by
  obtain ⟨X, Y, rfl, hX⟩ : ∃ X Y, xs = X ++ Y ∧ X.length = a := ⟨xs.take a, xs.drop a, by simp, by simp; omega⟩
  rw [List.take_left' hX, List.drop_left' hX]
  have h1 := insO_is z lt a (bsort lt s X) (by rw [bsort_len, hX]) Y [] (X ++ Y).length (by simp; omega)
  rw [List.append_nil, List.append_nil] at h1
  rw [h1, bsort_app lt s hs k X Y (by omega), bsort_fin lt s Y (by simp at hn; omega)]
theorem ph2_step (z : α) {lt : α → α → Bool} (h : SO lt) (xs : List α) (s k a m b f : Nat) (hs : 0 < s) (ha : a = 2 * s * k) (hm : m = a + s) (hb : b = a + 2 * s) (hn : b ≤ xs.length) (hf : b - a ≤ f) :
    symM z lt f a m b (bsort lt (2 * s) (xs.take a) ++ bsort lt s (xs.drop a)) = bsort lt (2 * s) (xs.take b) ++ bsort lt s (xs.drop b) := by
  obtain ⟨X, Y1, Y2, Z, rfl, hX, hY1, hY2⟩ : ∃ X Y1 Y2 Z, xs = X ++ (Y1 ++ (Y2 ++ Z)) ∧ X.length = a ∧ Y1.length = s ∧ Y2.length = s :=
    ⟨xs.take a, (xs.drop a).take s, ((xs.drop a).drop s).take s, ((xs.drop a).drop s).drop s, by simp only [List.take_append_drop], by simp; omega, by simp; omega, by simp; omega⟩
  rw [List.take_left' hX, List.drop_left' hX, bsort_one lt s hs Y1 _ hY1, bsort_one lt s hs Y2 _ hY2]
  have h1 := symM_is z h f a m b (bsort lt (2 * s) X) (isort lt Y1) (isort lt Y2) (bsort lt s Z) (by rw [bsort_len, hX]) (by rw [isort_len]; omega) (by rw [isort_len]; omega) (by omega) (by omega) hf (isort_sorted h _) (isort_sorted h _)
  rw [h1, mg_isort h, show X ++ (Y1 ++ (Y2 ++ Z)) = (X ++ (Y1 ++ Y2)) ++ Z by simp, List.take_left' (show (X ++ (Y1 ++ Y2)).length = b by simp; omega), List.drop_left' (show (X ++ (Y1 ++ Y2)).length = b by simp; omega), bsort_app lt (2 * s) (by omega) k X _ (by omega), bsort_fin lt (2 * s) (Y1 ++ Y2) (by simp; omega)]
  simp
theorem ph2_end (z : α) {lt : α → α → Bool} (h : SO lt) (xs : List α) (s k a m f : Nat) (hs : 0 < s) (ha : a = 2 * s * k) (hm : m = a + s) (hmn : m < xs.length) (hn : xs.length < a + 2 * s) (hf : xs.length - a ≤ f) :
    symM z lt f a m xs.length (bsort lt (2 * s) (xs.take a) ++ bsort lt s (xs.drop a)) = bsort lt (2 * s) xs := by
  obtain ⟨X, Y1, Y2, rfl, hX, hY1⟩ : ∃ X Y1 Y2, xs = X ++ (Y1 ++ Y2) ∧ X.length = a ∧ Y1.length = s :=
    ⟨xs.take a, (xs.drop a).take s, (xs.drop a).drop s, by simp only [List.take_append_drop], by simp; omega, by simp; omega⟩
  simp only [List.length_append] at hmn hn hf
  rw [List.take_left' hX, List.drop_left' hX, bsort_one lt s hs Y1 _ hY1, bsort_fin lt s Y2 (by omega)]
  have h1 := symM_is z h f a m (X ++ (Y1 ++ Y2)).length (bsort lt (2 * s) X) (isort lt Y1) (isort lt Y2) [] (by rw [bsort_len, hX]) (by rw [isort_len]; omega) (by rw [isort_len]; simp; omega) (by omega) (by simp; omega) (by simp; omega) (isort_sorted h _) (isort_sorted h _)
  rw [List.append_nil, List.append_nil] at h1
  rw [h1, mg_isort h, bsort_app lt (2 * s) (by omega) k X _ (by omega), bsort_fin lt (2 * s) (Y1 ++ Y2) (by simp; omega)]
theorem ph2_skip (lt : α → α → Bool) (xs : List α) (s k a : Nat) (hs : 0 < s) (ha : a = 2 * s * k) (han : a ≤ xs.length) (hmn : xs.length ≤ a + s) :
    bsort lt (2 * s) (xs.take a) ++ bsort lt s (xs.drop a) = bsort lt (2 * s) xs := by
  have h1 := bsort_app lt (2 * s) (by omega) k (xs.take a) (xs.drop a) (by simp; omega)
  rw [List.take_append_drop] at h1
  rw [h1, bsort_fin lt s _ (by simp; omega), bsort_fin lt (2 * s) (xs.drop a) (by simp; omega)]
end
theorem sw_all {α : Type} {Pr : α → Prop} {z : α} {xs : List α} (h : ∀ x ∈ xs, Pr x) (hz : Pr z) (i j : Nat) : ∀ x ∈ sw z xs i j, Pr x := by
  have hg : ∀ i, Pr (xs.getD i z) := fun i => by
    rw [List.getD_eq_getElem?_getD]
    rcases Nat.lt_or_ge i xs.length with hl | hl
    · rw [List.getElem?_eq_getElem hl]; exact h _ (List.getElem_mem hl)
    · rw [List.getElem?_eq_none hl]; exact hz
  intro x hx
  unfold sw at hx
  rcases List.mem_or_eq_of_mem_set hx with hx | rfl
  · rcases List.mem_or_eq_of_mem_set hx with hx | rfl
    · exact h x hx
    · exact hg j
  · exact hg i
theorem upL_all {α : Type} {Pr : α → Prop} {z : α} (hz : Pr z) (q i : Nat) (xs : List α) : (∀ x ∈ xs, Pr x) → ∀ x ∈ upL z q i xs, Pr x := by
  fun_induction upL z q i xs with
  | case1 k xs h ih => exact fun hx => ih (sw_all hx hz _ _)
  | case2 k xs h => exact id
theorem dnL_all {α : Type} {Pr : α → Prop} {z : α} (hz : Pr z) (q i : Nat) (xs : List α) : (∀ x ∈ xs, Pr x) → ∀ x ∈ dnL z q i xs, Pr x := by
  fun_induction dnL z q i xs with
  | case1 k xs h ih => exact fun hx => ih (sw_all hx hz _ _)
  | case2 k xs h => exact id
theorem swR_all {α : Type} {Pr : α → Prop} {z : α} (hz : Pr z) (a b n i : Nat) (xs : List α) : (∀ x ∈ xs, Pr x) → ∀ x ∈ swR z a b n i xs, Pr x := by
  fun_induction swR z a b n i xs with
  | case1 k xs h ih => exact fun hx => ih (sw_all hx hz _ _)
  | case2 k xs h => exact id
theorem rotL_all {α : Type} {Pr : α → Prop} {z : α} (hz : Pr z) (m i j : Nat) (xs : List α) : (∀ x ∈ xs, Pr x) → ∀ x ∈ rotL z m i j xs, Pr x := by
  fun_induction rotL z m i j xs with
  | case1 => exact id
  | case2 => exact fun hx => swR_all hz _ _ _ _ _ hx
  | case3 => rename_i ih; exact fun hx => ih (swR_all hz _ _ _ _ _ hx)
  | case4 => rename_i ih; exact fun hx => ih (swR_all hz _ _ _ _ _ hx)
theorem insG_all {α : Type} {Pr : α → Prop} {z : α} {lt : α → α → Bool} (hz : Pr z) (a j : Nat) (xs : List α) : (∀ x ∈ xs, Pr x) → ∀ x ∈ insG z lt a j xs, Pr x := by
  fun_induction insG z lt a j xs with
  | case1 => exact id
  | case2 => rename_i ih; exact fun hx => ih (sw_all hx hz _ _)
  | case3 => exact id
theorem symM_all {α : Type} {Pr : α → Prop} {z : α} {lt : α → α → Bool} (hz : Pr z) : ∀ (F a m b : Nat) (xs : List α), (∀ x ∈ xs, Pr x) → ∀ x ∈ symM z lt F a m b xs, Pr x := by
  intro F
  induction F with
  | zero => intro a m b xs h; exact h
  | succ F ih =>
    intro a m b xs h
    rw [symM]
    split
    · exact upL_all hz _ _ _ h
    · split
      · exact dnL_all hz _ _ _ h
      · simp only
        have h1 : ∀ (c : Prop) [Decidable c] (m i j : Nat), ∀ x ∈ (if c then rotL z m i j xs else xs), Pr x := fun c _ m i j => by split; exact rotL_all hz _ _ _ _ h; exact h
        have h2 : ∀ (c : Prop) [Decidable c] (p q r : Nat) (ys : List α), (∀ x ∈ ys, Pr x) → ∀ x ∈ (if c then symM z lt F p q r ys else ys), Pr x := fun c _ p q r ys hy => by split; exact ih _ _ _ _ hy; exact hy
        exact h2 _ _ _ _ _ (h2 _ _ _ _ _ (h1 _ _ _ _))
/-- What the great case lays. -/
theorem symM_big {α : Type} {z : α} {lt : α → α → Bool} {F a m b : Nat} {xs : List α} (h1 : ¬ m = a + 1) (h2 : ¬ b = m + 1) {mid s0 r0 s e : Nat} {P : Nat → Bool} (hmid : mid = (a + b) / 2) (hs0 : s0 = if mid < m then mid + m - b else a) (hr0 : r0 = if mid < m then mid else m) (hP : P = fun c => !lt (xs.getD (mid + m - 1 - c) z) (xs.getD c z)) (hs : s = bs P s0 r0) (he : e = mid + m - s) (x1 x2 : List α)
    (e1 : x1 = if s < m ∧ m < e then rotL z m (m - s) (e - m) xs else xs) (e2 : x2 = if a < s ∧ s < mid then symM z lt F a s mid x1 else x1) : symM z lt (F + 1) a m b xs = if mid < e ∧ e < b then symM z lt F mid e b x2 else x2 := by
  subst e2; subst e1; subst he; subst hs; subst hP; subst hs0; subst hr0; subst hmid
  rw [symM, if_neg h1, if_neg h2]
theorem insO_all {α : Type} {Pr : α → Prop} {z : α} {lt : α → α → Bool} (hz : Pr z) (a b : Nat) (xs : List α) (h : ∀ x ∈ xs, Pr x) : ∀ x ∈ insO z lt a b xs, Pr x := by
  unfold insO
  generalize List.range' (a + 1) (b - (a + 1)) = l
  induction l generalizing xs with
  | nil => exact h
  | cons i l ih => exact ih _ (insG_all hz a i xs h)
end Go.Proofs.Ytoblkjdiahoplaa.G
