/- What is read from bytes by the codec's reader, in closed form: plain. -/
import Derived.Test.YtngjaaldidmgjaaC2
import Derived.Test.YtngjaaldidmgjaaC4
namespace Go.Proofs.Ytngjaaldidmgjaa.G
open Go.Shelf Go.RowKit Go.Proofs.YtngjaaldidmgjaaW.PrintWords Go.Proofs.YtngjaaldidmgjaaW.PrintLast Go.Proofs.YtngjaaldidmgjaaW.PrintMore
set_option linter.unusedVariables false
set_option linter.unusedSimpArgs false

/-- So many components out of bytes. -/
def dec4 : Nat → List Int → List Int
  | 0, _ => []
  | n + 1, l => signed 4 (num (l.take 4)) :: dec4 n (l.drop 4)
theorem dec4_len : ∀ (n : Nat) (l : List Int), (dec4 n l).length = n
  | 0, _ => rfl
  | n + 1, l => by rw [dec4, List.length_cons, dec4_len n]
theorem vloop_ok (bs : List Int) : ∀ (n : Nat) (xs : List Int) (pl : Nat), pl + 4 * n ≤ bs.length → vloop bs n (xs, pl, false) = (xs ++ dec4 n (bs.drop pl), pl + 4 * n, false)
  | 0, xs, pl, _ => by simp [vloop, dec4]
  | n + 1, xs, pl, h => by
    have hf : fits bs.length pl false ((4 : Nat) : Int) = true := fits_yes bs pl 4 (by omega) (by omega)
    have e1 : scPl bs.length pl false 4 = pl + 4 := scPl_yes hf
    have e2 : scBad bs.length pl false 4 = false := scBad_yes hf
    have e3 : scTake bs pl false 4 = (bs.drop pl).take 4 := scTake_yes hf
    rw [vloop, e1, e2, vloop_ok bs n _ (pl + 4) (by omega), dec4, vint, e3, List.drop_drop, List.append_assoc, List.singleton_append, show pl + 4 + 4 * n = pl + 4 * (n + 1) by omega]
theorem vloop_bad (bs : List Int) : ∀ (n : Nat) (xs : List Int) (pl : Nat) (sb : Bool), pl ≤ bs.length → (sb = true ∨ bs.length < pl + 4 * n) → (vloop bs n (xs, pl, sb)).2.2 = true
  | 0, xs, pl, sb, _, h => by
    rw [vloop]
    rcases h with h | h
    · exact h
    · omega
  | n + 1, xs, pl, sb, hp, h => by
    rw [vloop]
    cases sb with
    | true =>
      have e : scBad bs.length pl true 4 = true := scBad_no (fits_bad _ _ _)
      have e1 : scPl bs.length pl true 4 = pl := scPl_no (fits_bad _ _ _)
      rw [e1]
      exact vloop_bad bs n _ _ _ hp (.inl e)
    | false =>
      have h : bs.length < pl + 4 * (n + 1) := by
        rcases h with h | h
        · cases h
        · exact h
      by_cases hf : 4 ≤ bs.length - pl
      · have hf : fits bs.length pl false ((4 : Nat) : Int) = true := fits_yes bs pl 4 (by omega) (by omega)
        have e1 : scPl bs.length pl false 4 = pl + 4 := scPl_yes hf
        rw [e1]
        exact vloop_bad bs n _ _ _ (by omega) (.inr (by omega))
      · have hf : fits bs.length pl false 4 = false := fits_no _ _ _ (by omega)
        have e1 : scPl bs.length pl false 4 = pl := scPl_no hf
        rw [e1]
        exact vloop_bad bs n _ _ _ hp (.inl (scBad_no hf))
theorem num_one (x : Int) : num [x] = x := by simp [num]
theorem rdN_at (bs : List Int) (pl : Nat) (h : pl < bs.length) : rdN bs pl false = bs.getD pl 0 := by
  have hf : fits bs.length pl false ((1 : Nat) : Int) = true := fits_yes bs pl 1 (by omega) (by omega)
  have e3 : scTake bs pl false 1 = (bs.drop pl).take 1 := scTake_yes hf
  rw [rdN, e3, drop_at bs pl 0 h, List.take_succ_cons, List.take_zero, num_one]
theorem rdVec_end (bs : List Int) (pl : Nat) (hp : pl ≤ bs.length) (h : bs.length ≤ pl) : rdVec bs pl false false = ([], pl, true, false) := by
  have hf : fits bs.length pl false 1 = false := fits_no _ _ _ (by omega)
  rw [rdVec, if_pos (scBad_no hf), scPl_no hf]
theorem rdVec_sbad (bs : List Int) (pl : Nat) : rdVec bs pl true false = ([], pl, true, false) := by
  rw [rdVec, if_pos (scBad_no (fits_bad _ _ _)), scPl_no (fits_bad _ _ _)]
theorem rdVec_many (bs : List Int) (pl : Nat) (h : pl < bs.length) (hn : bs.getD pl 0 < 1 ∨ 4 < bs.getD pl 0) : rdVec bs pl false false = ([], pl + 1, false, true) := by
  have hf : fits bs.length pl false ((1 : Nat) : Int) = true := fits_yes bs pl 1 (by omega) (by omega)
  have e2 : scBad bs.length pl false 1 = false := scBad_yes hf
  have e1 : scPl bs.length pl false 1 = pl + 1 := scPl_yes hf
  rw [rdVec, e2, if_neg (by decide), rdN_at bs pl h, if_pos hn, e1]
theorem rdVec_in (bs : List Int) (pl : Nat) (h : pl < bs.length) (hn : ¬ (bs.getD pl 0 < 1 ∨ 4 < bs.getD pl 0)) :
    rdVec bs pl false false = ((vloop bs (bs.getD pl 0).toNat ([], pl + 1, false)).1, (vloop bs (bs.getD pl 0).toNat ([], pl + 1, false)).2.1, (vloop bs (bs.getD pl 0).toNat ([], pl + 1, false)).2.2, false) := by
  have hf : fits bs.length pl false ((1 : Nat) : Int) = true := fits_yes bs pl 1 (by omega) (by omega)
  have e2 : scBad bs.length pl false 1 = false := scBad_yes hf
  have e1 : scPl bs.length pl false 1 = pl + 1 := scPl_yes hf
  rw [rdVec, e2, if_neg (by decide), rdN_at bs pl h, if_neg hn, e1]
/-- What is taken from a place on, where a check tells whether it may be. -/
def tvg (bs : List Int) (pl : Nat) (ck : List Int → Bool) : List Int × Int × Int :=
  if bs.length ≤ pl then ([], 0, 7)
  else if bs.getD pl 0 < 1 ∨ 4 < bs.getD pl 0 then ([], 0, 172)
  else if bs.length < pl + 1 + 4 * (bs.getD pl 0).toNat then ([], 0, 7)
  else if ck (dec4 (bs.getD pl 0).toNat (bs.drop (pl + 1))) = true then (dec4 (bs.getD pl 0).toNat (bs.drop (pl + 1)), ((pl + 1 + 4 * (bs.getD pl 0).toNat : Nat) : Int), 0)
  else ([], 0, 172)
def outR (t : Int × Int) (xs : List Int) : List Int × Int × Int := if t.2 = 0 then (xs, t.1, 0) else ([], 0, t.2)
theorem outR_bad (r : List Int × Nat × Bool × Bool) (en : List Int → Int) (h : r.2.2.2 = true) : outR (takeR r.2.1 r.2.2.1 r.2.2.2 (en r.1)) r.1 = ([], 0, 172) := by
  simp [outR, takeR, h]
theorem outR_short (r : List Int × Nat × Bool × Bool) (en : List Int → Int) (h : r.2.2.2 = false) (h2 : r.2.2.1 = true) : outR (takeR r.2.1 r.2.2.1 r.2.2.2 (en r.1)) r.1 = ([], 0, 7) := by
  simp [outR, takeR, h, h2]
theorem outR_ok (pl : Nat) (xs : List Int) (e : Int) (h : e = 0) : outR (takeR pl false false e) xs = (xs, (pl : Int), 0) := by
  simp [outR, takeR, h]
theorem outR_no (pl : Nat) (xs : List Int) (e : Int) (h : e ≠ 0) : outR (takeR pl false false e) xs = ([], 0, 172) := by
  simp [outR, takeR, h]
theorem tvg_is (bs : List Int) (pl : Nat) (hp : pl ≤ bs.length) (ck : List Int → Bool) (en : List Int → Int) (he : ∀ v, en v = 0 ↔ ck v = true) :
    outR (takeR (rdVec bs pl false false).2.1 (rdVec bs pl false false).2.2.1 (rdVec bs pl false false).2.2.2 (en (rdVec bs pl false false).1)) (rdVec bs pl false false).1 = tvg bs pl ck := by
  unfold tvg
  by_cases h1 : bs.length ≤ pl
  · rw [if_pos h1, rdVec_end bs pl hp h1]; exact outR_short ([], pl, true, false) en rfl rfl
  · rw [if_neg h1]
    by_cases h2 : bs.getD pl 0 < 1 ∨ 4 < bs.getD pl 0
    · rw [if_pos h2, rdVec_many bs pl (by omega) h2]; exact outR_bad ([], pl + 1, false, true) en rfl
    · rw [if_neg h2]
      have e := rdVec_in bs pl (by omega) h2
      generalize (bs.getD pl 0).toNat = n at *
      by_cases h3 : bs.length < pl + 1 + 4 * n
      · rw [if_pos h3, e]
        exact outR_short ((vloop bs n ([], pl + 1, false)).1, (vloop bs n ([], pl + 1, false)).2.1, (vloop bs n ([], pl + 1, false)).2.2, false) en rfl (vloop_bad bs n _ _ _ (by omega) (.inr h3))
      · rw [if_neg h3, e, vloop_ok bs n [] (pl + 1) (by omega), List.nil_append]
        cases hc : ck (dec4 n (bs.drop (pl + 1))) with
        | true =>
          rw [if_pos rfl]
          exact outR_ok (pl + 1 + 4 * n) (dec4 n (bs.drop (pl + 1))) _ ((he _).2 hc)
        | false =>
          rw [if_neg (by decide)]
          exact outR_no (pl + 1 + 4 * n) (dec4 n (bs.drop (pl + 1))) _ (fun h => by rw [(he _).1 h] at hc; cases hc)
theorem tvg_sbad (bs : List Int) (pl : Nat) (en : List Int → Int) :
    outR (takeR (rdVec bs pl true false).2.1 (rdVec bs pl true false).2.2.1 (rdVec bs pl true false).2.2.2 (en (rdVec bs pl true false).1)) (rdVec bs pl true false).1 = ([], 0, 7) := by
  rw [rdVec_sbad]; exact outR_short ([], pl, true, false) en rfl rfl
theorem tvg_range (bs : List Int) (pl : Nat) (ck : List Int → Bool) (h : (tvg bs pl ck).2.2 = 0) : bs.length > pl ∧ (1 ≤ bs.getD pl 0 ∧ bs.getD pl 0 ≤ 4) ∧ pl + 1 + 4 * (bs.getD pl 0).toNat ≤ bs.length ∧ ck (dec4 (bs.getD pl 0).toNat (bs.drop (pl + 1))) = true ∧ tvg bs pl ck = (dec4 (bs.getD pl 0).toNat (bs.drop (pl + 1)), ((pl + 1 + 4 * (bs.getD pl 0).toNat : Nat) : Int), 0) := by
  unfold tvg at h ⊢
  by_cases h1 : bs.length ≤ pl
  · rw [if_pos h1] at h; cases h
  · rw [if_neg h1] at h ⊢
    by_cases h2 : bs.getD pl 0 < 1 ∨ 4 < bs.getD pl 0
    · rw [if_pos h2] at h; cases h
    · rw [if_neg h2] at h ⊢
      by_cases h3 : bs.length < pl + 1 + 4 * (bs.getD pl 0).toNat
      · rw [if_pos h3] at h; cases h
      · rw [if_neg h3] at h ⊢
        cases hc : ck (dec4 (bs.getD pl 0).toNat (bs.drop (pl + 1))) with
        | true => rw [if_pos rfl]; exact ⟨by omega, by omega, by omega, rfl, rfl⟩
        | false => rw [hc, if_neg (by decide)] at h; cases h
/-- What is laid is read again. -/
theorem signed_numB (x : Int) (h1 : -2147483648 ≤ x) (h2 : x ≤ 2147483647) : signed 4 (num (numB x)) = x := by
  unfold numB
  rw [num_put 4 _ (by rw [IntKind.wrap_u64]; omega) (by decide), IntKind.wrap_u64]
  unfold signed
  rw [if_pos (by decide), show (256 : Int) ^ (4 : Int).toNat = 4294967296 by decide]
  split <;> omega
theorem dec4_vecT : ∀ (v t : List Int), (∀ x ∈ v, -2147483648 ≤ x ∧ x ≤ 2147483647) → dec4 v.length (vecT v ++ t) = v
  | [], _, _ => rfl
  | x :: v, t, h => by
    have hx := h x (by simp)
    have e : vecT (x :: v) ++ t = numB x ++ (vecT v ++ t) := by unfold vecT; rw [List.map_cons, List.flatten_cons, List.append_assoc]
    rw [List.length_cons, dec4, e, List.take_left' (numB_len x), List.drop_left' (numB_len x), signed_numB x hx.1 hx.2, dec4_vecT v t (fun y hy => h y (by simp [hy]))]
theorem byteAt_add (j : Nat) (hj : j < 4) (y k : Int) : byteAt 4 (y + 4294967296 * k) j = byteAt 4 y j := by
  unfold byteAt
  rcases (show j = 0 ∨ j = 1 ∨ j = 2 ∨ j = 3 by omega) with rfl | rfl | rfl | rfl
  · rw [show 8 * (4 - 1 - 0) = 24 from rfl, show (2 : Int) ^ 24 = 16777216 by decide]; omega
  · rw [show 8 * (4 - 1 - 1) = 16 from rfl, show (2 : Int) ^ 16 = 65536 by decide]; omega
  · rw [show 8 * (4 - 1 - 2) = 8 from rfl, show (2 : Int) ^ 8 = 256 by decide]; omega
  · rw [show 8 * (4 - 1 - 3) = 0 from rfl, show (2 : Int) ^ 0 = 1 by decide]; omega
theorem put4_add (y k : Int) : putBytes 4 (y + 4294967296 * k) = putBytes 4 y := by
  unfold putBytes
  rw [if_pos (by decide), if_pos (by decide)]
  unfold putFrom
  refine List.map_congr_left fun j hj => ?_
  obtain ⟨q, h1, h2⟩ := List.mem_range'.1 hj
  exact byteAt_add j (by simp at h1; omega) y k
theorem numB_signed (t : List Int) (hl : t.length = 4) (hby : ∀ x ∈ t, 0 ≤ x ∧ x ≤ 255) : numB (signed 4 (num t)) = t := by
  have hr := num_range t hby
  rw [hl, show (256 : Int) ^ 4 = 4294967296 by decide] at hr
  have hp := put_num 4 t (by decide) hl hby
  unfold numB signed
  rw [if_pos (by decide), show (256 : Int) ^ (4 : Int).toNat = 4294967296 by decide, IntKind.wrap_u64]
  split
  · rw [Int.emod_eq_of_lt (by omega) (by omega)]; exact hp
  · rw [show (num t - 4294967296) % 18446744073709551616 = num t + 4294967296 * 4294967295 by omega, put4_add]; exact hp
theorem vecT_dec4 : ∀ (n : Nat) (l : List Int), 4 * n ≤ l.length → (∀ x ∈ l, 0 ≤ x ∧ x ≤ 255) → vecT (dec4 n l) = l.take (4 * n)
  | 0, l, _, _ => rfl
  | n + 1, l, h, hby => by
    have e : vecT (dec4 (n + 1) l) = numB (signed 4 (num (l.take 4))) ++ vecT (dec4 n (l.drop 4)) := by unfold vecT; rw [dec4, List.map_cons, List.flatten_cons]
    rw [e, numB_signed (l.take 4) (by rw [List.length_take]; omega) (fun x hx => hby x (List.mem_of_mem_take hx)), vecT_dec4 n (l.drop 4) (by rw [List.length_drop]; omega) (fun x hx => hby x (List.mem_of_mem_drop hx))]
    rw [show 4 * (n + 1) = 4 + 4 * n by omega, List.take_add]
theorem vecB_len (v : List Int) : (vecB v).length = 1 + 4 * v.length := by rw [vecB, List.length_cons, vecT_len]; omega
/-- The bytes of what was taken are those that were. -/
theorem vecB_tvg (bs : List Int) (pl : Nat) (hby : ∀ x ∈ bs, 0 ≤ x ∧ x ≤ 255) (h1 : pl < bs.length) (h2 : 1 ≤ bs.getD pl 0 ∧ bs.getD pl 0 ≤ 4) (h3 : pl + 1 + 4 * (bs.getD pl 0).toNat ≤ bs.length) :
    vecB (dec4 (bs.getD pl 0).toNat (bs.drop (pl + 1))) = (bs.drop pl).take (1 + 4 * (bs.getD pl 0).toNat) := by
  rw [vecB, dec4_len, vecT_dec4 _ _ (by rw [List.length_drop]; omega) (fun x hx => hby x (List.mem_of_mem_drop hx)), drop_at bs pl 0 h1]
  obtain ⟨m, hm⟩ : ∃ m : Nat, bs.getD pl 0 = (m : Int) := ⟨(bs.getD pl 0).toNat, by omega⟩
  rw [hm, Int.toNat_natCast, Nat.add_comm 1 (4 * m), List.take_succ_cons, show ((m : Int) % 256) = (m : Int) by omega]
theorem getD_app (l m : List Int) : (l ++ m).getD l.length 0 = m.getD 0 0 := by
  rw [List.getD_eq_getElem?_getD, List.getD_eq_getElem?_getD, List.getElem?_append_right (Nat.le_refl _), Nat.sub_self]
/-- What is laid behind other bytes is taken from there. -/
theorem tvg_back (p v t : List Int) (ck : List Int → Bool) (hr : (1 ≤ v.length ∧ v.length ≤ 4) ∧ ∀ x ∈ v, -2147483648 ≤ x ∧ x ≤ 2147483647) (hc : ck v = true) :
    tvg (p ++ vecB v ++ t) p.length ck = (v, ((p ++ vecB v).length : Int), 0) := by
  have e0 : (p ++ vecB v ++ t).getD p.length 0 = (v.length : Int) := by
    rw [List.append_assoc, getD_app, vecB]
    show ((v.length : Int) % 256) = _
    omega
  have e1 : dec4 v.length ((p ++ vecB v ++ t).drop (p.length + 1)) = v := by
    rw [List.append_assoc, ← List.drop_drop, List.drop_left' rfl, vecB]
    exact dec4_vecT v t hr.2
  have hl : (p ++ vecB v ++ t).length = p.length + (1 + 4 * v.length) + t.length := by rw [List.length_append, List.length_append, vecB_len]
  unfold tvg
  rw [e0, Int.toNat_natCast, e1, hl, if_neg (by omega), if_neg (by omega), if_neg (by omega), if_pos hc, List.length_append, vecB_len]
  rw [show p.length + 1 + 4 * v.length = p.length + (1 + 4 * v.length) by omega]
/-- Less of what is laid is too short. -/
theorem tvg_short (p v : List Int) (ck : List Int → Bool) (hr : 1 ≤ v.length ∧ v.length ≤ 4) (i : Nat) (h1 : p.length ≤ i) (hi : i < (p ++ vecB v).length) : tvg ((p ++ vecB v).take i) p.length ck = ([], 0, 7) := by
  have hl : (p ++ vecB v).length = p.length + (1 + 4 * v.length) := by rw [List.length_append, vecB_len]
  have hi' : ((p ++ vecB v).take i).length = i := by rw [List.length_take]; omega
  unfold tvg
  rw [hi']
  by_cases h : i ≤ p.length
  · rw [if_pos h]
  · rw [if_neg h]
    have e0 : ((p ++ vecB v).take i).getD p.length 0 = (v.length : Int) := by
      rw [List.getD_eq_getElem?_getD, List.getElem?_take_of_lt (by omega), ← List.getD_eq_getElem?_getD, getD_app, vecB]
      show ((v.length : Int) % 256) = _
      omega
    rw [e0, Int.toNat_natCast, if_neg (by omega), if_pos (by omega)]

end Go.Proofs.Ytngjaaldidmgjaa.G
