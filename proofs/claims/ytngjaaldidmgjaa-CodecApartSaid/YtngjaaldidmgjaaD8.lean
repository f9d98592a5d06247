/- The program's and the document's takings from bytes, in closed form; quiverlaw07.CodecTakes: plain. -/
import Derived.Test.YtngjaaldidmgjaaD7
import Derived.Test.YtngjaaldidmgjaaC7
import Derived.Test.YtngjaaldidmgjaaPx5
import Derived.Test.YtngjaaldidmgjaaD8a
namespace Go.Proofs.Ytngjaaldidmgjaa.G
open Go.Shelf Go.RowKit Go.Proofs.YtngjaaldidmgjaaW.PrintWords Go.Proofs.YtngjaaldidmgjaaW.PrintLast Go.Proofs.YtngjaaldidmgjaaW.PrintMore
set_option linter.unusedVariables false
set_option linter.unusedSimpArgs false

theorem ref_num_l0 (l : List Int) (hl : l.length ≤ 8) (hby : ∀ x ∈ l, 0 ≤ x ∧ x ≤ 255) : ∀ (d i k : Nat), i + d = l.length → d < k → P.quiverref07_number.l0 k l (num (l.take i)) (i : Int) = some (num l)
  | 0, i, k + 1, h, _ => by
    rw [P.quiverref07_number.l0, if_neg (by omega), List.take_of_length_le (by omega)]
  | d + 1, i, k + 1, h, hk => by
    rw [P.quiverref07_number.l0, if_pos (by omega), if_pos (by omega), num_step l i hl hby (by omega), w64 (by omega) (by omega), show ((i : Int) + 1) = ((i + 1 : Nat) : Int) by omega]
    exact ref_num_l0 l hl hby d (i + 1) k (by omega) (by omega)
theorem ref_num_is (l : List Int) (k : Nat) (hk : 9 ≤ k) (hl : l.length ≤ 8) (hby : ∀ x ∈ l, 0 ≤ x ∧ x ≤ 255) : P.quiverref07_number.f k l = some (num l) :=
  ref_num_l0 l hl hby l.length 0 k (by omega) (by omega)
theorem wrap32_signed (y : Int) (h0 : 0 ≤ y) (h1 : y < 4294967296) : wrap32 (y % 4294967296) = signed 4 y := by
  unfold signed wrap32
  rw [if_pos (by decide), show (256 : Int) ^ (4 : Int).toNat = 4294967296 by decide]
  split <;> omega
theorem w3 {a b : Int} (ha : 0 ≤ a ∧ a ≤ 10000) (hb : 0 ≤ b ∧ b ≤ 10000) : wrap64 (wrap64 a + wrap64 b) = a + b := by
  rw [w64 (i := a) (by omega) (by omega), w64 (i := b) (by omega) (by omega), w64 (by omega) (by omega)]
/-- What the document takes. -/
def tv (bs : List Int) (pl : Nat) : List Int × Int × Int := tvg bs pl right
theorem ref_vec_l0 (l : List Int) (hl : l.length ≤ 1000) (hby : ∀ x ∈ l, 0 ≤ x ∧ x ≤ 255) (at_ n : Nat) (ha : at_ ≤ 100) (hn : n ≤ 4) (hin : at_ + 1 + 4 * n ≤ l.length) : ∀ (d i k : Nat) (acc : List Int), i + d = n → acc.length = i → d + 12 ≤ k →
    P.quiverref07_TakeVec.l0 k l (at_ : Int) (n : Int) acc (i : Int) = some (if right (acc ++ dec4 d (l.drop (at_ + 1 + 4 * i))) = true then (acc ++ dec4 d (l.drop (at_ + 1 + 4 * i)), ((at_ + 1 + 4 * n : Nat) : Int), 0) else ([], 0, 172))
  | 0, i, k + 1, acc, h, hacc, hk => by
    rw [P.quiverref07_TakeVec.l0, if_neg (by omega), right_is k acc (by omega) (by omega), Option.bind_some, dec4, List.append_nil]
    rw [show wrap64 (wrap64 ((at_ : Int) + 1) + wrap64 (4 * (n : Int))) = ((at_ + 1 + 4 * n : Nat) : Int) by rw [w3 (by omega) (by omega)]; omega]
    split <;> rfl
  | d + 1, i, k + 1, acc, h, hacc, hk => by
    have e1 : wrap64 (wrap64 ((at_ : Int) + 1) + wrap64 (4 * (i : Int))) = ((at_ + 1 + 4 * i : Nat) : Int) := by rw [w3 (by omega) (by omega)]; omega
    have e2 : wrap64 (wrap64 ((at_ : Int) + 5) + wrap64 (4 * (i : Int))) = ((at_ + 1 + 4 * i + 4 : Nat) : Int) := by rw [w3 (by omega) (by omega)]; omega
    have e3 : (l.take (at_ + 1 + 4 * i + 4)).drop (at_ + 1 + 4 * i) = (l.drop (at_ + 1 + 4 * i)).take 4 := by rw [List.drop_take, show at_ + 1 + 4 * i + 4 - (at_ + 1 + 4 * i) = 4 by omega]
    have hb4 : ∀ x ∈ (l.drop (at_ + 1 + 4 * i)).take 4, 0 ≤ x ∧ x ≤ 255 := fun x hx => hby x (List.mem_of_mem_drop (List.mem_of_mem_take hx))
    have hl4 : ((l.drop (at_ + 1 + 4 * i)).take 4).length ≤ 4 := by rw [List.length_take]; omega
    have hr := num_range _ hb4
    have hr2 := pow_le256 hl4
    rw [show (256 : Int) ^ 4 = 4294967296 by decide] at hr2
    rw [P.quiverref07_TakeVec.l0, if_pos (by omega), e1, e2, if_pos (by omega), if_pos (by omega), if_pos (by omega), Int.toNat_natCast, Int.toNat_natCast, e3, ref_num_is _ k (by omega) (by omega) hb4, Option.bind_some, if_pos (by omega),
      w64 (by omega) (by omega), show ((i : Int) + 1) = ((i + 1 : Nat) : Int) by omega, wrap32_signed _ hr.1 (by omega), ref_vec_l0 l hl hby at_ n ha hn hin d (i + 1) k _ (by omega) (by rw [List.length_append, hacc]; rfl) (by omega), dec4, List.drop_drop, List.append_assoc, List.singleton_append, show at_ + 1 + 4 * i + 4 = at_ + 1 + 4 * (i + 1) by omega]
theorem ref_vec_is (l : List Int) (hl : l.length ≤ 1000) (hby : ∀ x ∈ l, 0 ≤ x ∧ x ≤ 255) (at_ : Nat) (ha : at_ ≤ 100) (k : Nat) (hk : 20 ≤ k) : P.quiverref07_TakeVec.f k l (at_ : Int) = some (tv l at_) := by
  unfold P.quiverref07_TakeVec.f tv tvg
  by_cases h1 : l.length ≤ at_
  · rw [if_pos (by omega), if_pos h1]
  · have hb : 0 ≤ l.getD at_ 0 ∧ l.getD at_ 0 ≤ 255 := by rw [getD_of_lt l at_ 0 (by omega)]; exact hby _ (List.getElem_mem _)
    obtain ⟨k, rfl⟩ : ∃ q, k = q + 1 := ⟨k - 1, by omega⟩
    rw [if_neg (by omega), if_neg h1, if_pos (by omega), if_pos (by omega), rd_nat]
    obtain ⟨n, hn⟩ : ∃ n : Nat, l.getD at_ 0 = (n : Int) := ⟨(l.getD at_ 0).toNat, by omega⟩
    rw [hn] at hb ⊢
    rw [w64 (by omega) (by omega), Int.toNat_natCast]
    by_cases h2 : (n : Int) < 1
    · rw [if_pos h2, if_pos (.inl h2), P.quiverref07_TakeVec.j0, if_pos rfl]
    · rw [if_neg h2, P.quiverref07_TakeVec.j0]
      by_cases h3 : 4 < (n : Int)
      · rw [if_pos (decide_eq_true h3), if_pos (.inr h3)]
      · rw [if_neg (by rw [decide_eq_true_eq]; omega), if_neg (show ¬ ((n : Int) < 1 ∨ 4 < (n : Int)) by omega)]
        rw [show wrap64 (wrap64 ((at_ : Int) + 1) + wrap64 (4 * (n : Int))) = ((at_ + 1 + 4 * n : Nat) : Int) by rw [w3 (by omega) (by omega)]; omega]
        by_cases h4 : l.length < at_ + 1 + 4 * n
        · rw [if_pos (by omega), if_pos h4]
        · rw [if_neg (by omega), if_neg h4]
          have := ref_vec_l0 l hl hby at_ n ha (by omega) (by omega) n 0 k [] (by omega) rfl (by omega)
          rw [List.nil_append, Nat.mul_zero, Nat.add_zero] at this
          exact this
/-- A row taken. -/
def tr (bs : List Int) : Int × List Int × Int × Int := if (tv bs 8).2.2 = 0 then (num (bs.take 8), (tv bs 8).1, (tv bs 8).2.1, 0) else (0, [], 0, (tv bs 8).2.2)
theorem tv_end (bs : List Int) (pl : Nat) (ck : List Int → Bool) (h : bs.length ≤ pl) : tvg bs pl ck = ([], 0, 7) := by unfold tvg; rw [if_pos h]
theorem tv_len (bs : List Int) (pl : Nat) (ck : List Int → Bool) (h : (tvg bs pl ck).2.2 = 0) : pl < bs.length := (tvg_range bs pl ck h).1
theorem ref_row_is (l : List Int) (hl : l.length ≤ 1000) (hby : ∀ x ∈ l, 0 ≤ x ∧ x ≤ 255) (k : Nat) (hk : 20 ≤ k) : P.quiverref07_TakeRow.f k l = some (tr l) := by
  unfold P.quiverref07_TakeRow.f tr
  have h8 := ref_vec_is l hl hby 8 (by omega) k hk
  rw [show (8 : Int) = ((8 : Nat) : Int) from rfl, h8, Option.bind_some]
  by_cases h : (tv l 8).2.2 = 0
  · have hlt := tv_len l 8 right h
    rw [if_pos h, if_pos h, if_pos (by omega), ref_num_is _ k (by omega) (by rw [List.length_take]; omega) (fun x hx => hby x (List.mem_of_mem_take hx)), Option.bind_some]
  · rw [if_neg h, if_neg h]
theorem outR_zero (te : Int × Int) (xs : List Int) : (outR te xs).2.2 = te.2 := by
  unfold outR
  split
  · rename_i h; exact h.symm
  · rfl
theorem outR_yes (te : Int × Int) (xs : List Int) (h : te.2 = 0) : outR te xs = (xs, te.1, 0) := by unfold outR; rw [if_pos h]
theorem take8 (bs : List Int) (h : 8 ≤ bs.length) : scTake bs 0 false 8 = bs.take 8 ∧ scPl bs.length 0 false 8 = 8 ∧ scBad bs.length 0 false 8 = false := by
  have hf : fits bs.length 0 false ((8 : Nat) : Int) = true := fits_yes bs 0 8 (by omega) (by omega)
  exact ⟨scTake_yes hf, scPl_yes hf, scBad_yes hf⟩
theorem take8no (bs : List Int) (h : bs.length < 8) : scPl bs.length 0 false 8 = 0 ∧ scBad bs.length 0 false 8 = true := by
  have hf : fits bs.length 0 false 8 = false := fits_no _ _ _ (by omega)
  exact ⟨scPl_no hf, scBad_no hf⟩
theorem ckRow_iff (v : List Int) : ckRow v = 0 ↔ right v = true := by
  unfold ckRow
  cases right v with
  | true => exact ⟨fun _ => rfl, fun _ => rfl⟩
  | false => exact ⟨fun h => by simp at h, fun h => by cases h⟩
theorem checkV_iff (v : List Int) : checkV v = 0 ↔ right v = true := by
  unfold checkV
  cases right v with
  | true => exact ⟨fun _ => rfl, fun _ => rfl⟩
  | false => exact ⟨fun h => by simp at h, fun h => by cases h⟩
theorem takeVR_is (bs : List Int) : takeVR bs = tv bs 0 := tvg_is bs 0 (Nat.zero_le _) right checkV checkV_iff
theorem rowOut (bs : List Int) : outR (takeR (rowRd bs).2.1 (rowRd bs).2.2.1 (rowRd bs).2.2.2 (ckRow (rowRd bs).1)) (rowRd bs).1 = tv bs 8 := by
  unfold rowRd
  by_cases h : 8 ≤ bs.length
  · obtain ⟨_, e2, e3⟩ := take8 bs h
    rw [e2, e3]; exact tvg_is bs 8 h right ckRow ckRow_iff
  · obtain ⟨e2, e3⟩ := take8no bs (by omega)
    rw [e2, e3, tvg_sbad, tv, tv_end bs 8 right (by omega)]
theorem takeRR_is (bs : List Int) : takeRR bs = tr bs := by
  have h := rowOut bs
  have hz := outR_zero (takeR (rowRd bs).2.1 (rowRd bs).2.2.1 (rowRd bs).2.2.2 (ckRow (rowRd bs).1)) (rowRd bs).1
  rw [h] at hz
  unfold takeRR tr
  rw [← hz]
  by_cases e : (tv bs 8).2.2 = 0
  · rw [if_pos e, if_pos e]
    rw [outR_yes _ _ (hz.symm.trans e)] at h
    have hlt := tv_len bs 8 right e
    rw [← h, rowId, (take8 bs (by omega)).1]
  · rw [if_neg e, if_neg e]
/-- A version taken. -/
def tver (bs : List Int) : Int × Int × List Int × Int × Int := if (tv bs 16).2.2 = 0 then (if rightVer (num (bs.take 8)) (num ((bs.drop 8).take 8)) (tv bs 16).1 = true then (num (bs.take 8), num ((bs.drop 8).take 8), (tv bs 16).1, (tv bs 16).2.1, 0) else (0, 0, [], 0, 172)) else (0, 0, [], 0, (tv bs 16).2.2)
theorem tv_vlen (bs : List Int) (pl : Nat) (ck : List Int → Bool) : (tvg bs pl ck).1.length ≤ 4 := by
  by_cases h : (tvg bs pl ck).2.2 = 0
  · obtain ⟨_, h2, _, _, h5⟩ := tvg_range bs pl ck h
    rw [h5]
    show (dec4 _ _).length ≤ 4
    rw [dec4_len]; omega
  · unfold tvg at h ⊢
    split
    · simp
    · split
      · simp
      · split
        · simp
        · split
          · rename_i h1 h2 h3 h4; rw [if_neg h1, if_neg h2, if_neg h3, if_pos h4] at h; exact absurd rfl h
          · simp
theorem ref_ver_is (l : List Int) (hl : l.length ≤ 1000) (hby : ∀ x ∈ l, 0 ≤ x ∧ x ≤ 255) (k : Nat) (hk : 20 ≤ k) : P.quiverref07_TakeVersion.f k l = some (tver l) := by
  unfold P.quiverref07_TakeVersion.f tver
  have h8 := ref_vec_is l hl hby 16 (by omega) k hk
  rw [show (16 : Int) = ((16 : Nat) : Int) from rfl, h8, Option.bind_some]
  have hvl := tv_vlen l 16 right
  by_cases h : (tv l 16).2.2 = 0
  · have hlt := tv_len l 16 right h
    have e3 : (l.take 16).drop 8 = (l.drop 8).take 8 := by rw [List.drop_take]
    rw [if_pos h, if_pos h]
    try simp only [Int.toNat_natCast]
    rw [if_pos (by omega), ref_num_is (l.take 8) k (by omega) (by rw [List.length_take]; omega) (fun x hx => hby x (List.mem_of_mem_take hx)), Option.bind_some]
    first
      | rw [if_pos (by omega), if_pos (by omega), e3, ref_num_is _ k (by omega) (by rw [List.length_take]; omega) (fun x hx => hby x (List.mem_of_mem_drop (List.mem_of_mem_take hx))), Option.bind_some, refver_is k _ _ _ (by unfold tv; omega) (by unfold tv; omega), Option.bind_some]
      | rw [if_pos (by omega), e3, ref_num_is _ k (by omega) (by rw [List.length_take]; omega) (fun x hx => hby x (List.mem_of_mem_drop (List.mem_of_mem_take hx))), Option.bind_some, refver_is k _ _ _ (by unfold tv; omega) (by unfold tv; omega), Option.bind_some]
    split <;> rfl
  · rw [if_neg h, if_neg h]
theorem ckVer_iff (b e : Int) (v : List Int) : ckVer b e v = 0 ↔ rightVer b e v = true := by
  unfold ckVer
  cases rightVer b e v with
  | true => exact ⟨fun _ => rfl, fun _ => rfl⟩
  | false => exact ⟨fun h => by simp at h, fun h => by cases h⟩
theorem tvg_more (bs : List Int) (pl : Nat) (ck : List Int → Bool) (hck : ∀ v, ck v = true → right v = true) : tvg bs pl ck = if (tv bs pl).2.2 = 0 then (if ck (tv bs pl).1 = true then ((tv bs pl).1, (tv bs pl).2.1, 0) else ([], 0, 172)) else ([], 0, (tv bs pl).2.2) := by
  unfold tv tvg
  by_cases h1 : bs.length ≤ pl
  · rw [if_pos h1, if_pos h1]; rfl
  · rw [if_neg h1, if_neg h1]
    by_cases h2 : bs.getD pl 0 < 1 ∨ 4 < bs.getD pl 0
    · rw [if_pos h2, if_pos h2]; rfl
    · rw [if_neg h2, if_neg h2]
      by_cases h3 : bs.length < pl + 1 + 4 * (bs.getD pl 0).toNat
      · rw [if_pos h3, if_pos h3]; rfl
      · rw [if_neg h3, if_neg h3]
        cases hr : right (dec4 (bs.getD pl 0).toNat (bs.drop (pl + 1))) with
        | true => rw [if_pos rfl, if_pos rfl]
        | false =>
          rw [if_neg (fun h => by rw [hck _ h] at hr; cases hr)]; simp
theorem take16 (bs : List Int) (h : 16 ≤ bs.length) : verBg bs = num (bs.take 8) ∧ verEn bs = num ((bs.drop 8).take 8) ∧ scPl bs.length (verPl bs) (verSb bs) 8 = 16 ∧ scBad bs.length (verPl bs) (verSb bs) 8 = false := by
  obtain ⟨e1, e2, e3⟩ := take8 bs (by omega)
  have hf : fits bs.length 8 false ((8 : Nat) : Int) = true := fits_yes bs 8 8 (by omega) (by omega)
  unfold verEn verBg verPl verSb
  rw [e1, e2, e3]
  exact ⟨rfl, congrArg num (scTake_yes hf), scPl_yes hf, scBad_yes hf⟩
theorem take16no (bs : List Int) (h : bs.length < 16) : scBad bs.length (verPl bs) (verSb bs) 8 = true := by
  unfold verPl verSb
  by_cases h8 : 8 ≤ bs.length
  · obtain ⟨e1, e2, e3⟩ := take8 bs h8
    rw [e2, e3]; exact scBad_no (fits_no _ _ _ (by omega))
  · obtain ⟨e2, e3⟩ := take8no bs (by omega)
    rw [e2, e3]; exact scBad_no (fits_bad _ _ _)
theorem takeVerR_is (bs : List Int) : takeVerR bs = tver bs := by
  have hz := outR_zero (takeR (verRd bs).2.1 (verRd bs).2.2.1 (verRd bs).2.2.2 (ckVer (verBg bs) (verEn bs) (verRd bs).1)) (verRd bs).1
  have hy := outR_yes (takeR (verRd bs).2.1 (verRd bs).2.2.1 (verRd bs).2.2.2 (ckVer (verBg bs) (verEn bs) (verRd bs).1)) (verRd bs).1
  by_cases h : 16 ≤ bs.length
  · obtain ⟨e1, e2, e3, e4⟩ := take16 bs h
    have ho : outR (takeR (verRd bs).2.1 (verRd bs).2.2.1 (verRd bs).2.2.2 (ckVer (verBg bs) (verEn bs) (verRd bs).1)) (verRd bs).1 = tvg bs 16 (rightVer (num (bs.take 8)) (num ((bs.drop 8).take 8))) := by
      unfold verRd
      rw [e1, e2, e3, e4]
      exact tvg_is bs 16 h (rightVer _ _) (ckVer _ _) (fun v => ckVer_iff _ _ v)
    rw [tvg_more bs 16 _ (fun v hv => rightVer_right hv)] at ho
    unfold takeVerR tver
    rw [ho] at hz hy
    rw [← hz, e1, e2]
    rw [e1, e2] at hy hz
    by_cases c1 : (tv bs 16).2.2 = 0
    · rw [if_pos c1] at hy hz ⊢
      rw [if_pos c1]
      by_cases c2 : rightVer (num (bs.take 8)) (num ((bs.drop 8).take 8)) (tv bs 16).1 = true
      · rw [if_pos c2] at hy hz ⊢
        rw [if_pos c2, if_pos rfl]
        have hy' := hy hz.symm
        simp only [Prod.mk.injEq] at hy'
        rw [← hy'.2.1, ← hy'.1]
      · rw [if_neg c2, if_neg c2, if_neg (by decide)]
    · rw [if_neg c1, if_neg c1, if_neg c1]
  · have e4 := take16no bs (by omega)
    have ho : outR (takeR (verRd bs).2.1 (verRd bs).2.2.1 (verRd bs).2.2.2 (ckVer (verBg bs) (verEn bs) (verRd bs).1)) (verRd bs).1 = ([], 0, 7) := by
      unfold verRd
      rw [e4, tvg_sbad]
    rw [ho] at hz
    unfold takeVerR tver tv
    rw [← hz, tv_end bs 16 right (by omega), if_neg (by decide), if_neg (by decide)]

end Go.Proofs.Ytngjaaldidmgjaa.G
