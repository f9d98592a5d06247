/- What is laid is taken again; less of it is too short: plain. -/
import Derived.Test.YtngjaaldidmgjaaTakes0
import Derived.Test.YtngjaaldidmgjaaB7a
namespace Go.Proofs.Ytngjaaldidmgjaa.G
open Go.Shelf Go.RowKit Go.Proofs.YtngjaaldidmgjaaW.PrintWords Go.Proofs.YtngjaaldidmgjaaW.PrintLast Go.Proofs.YtngjaaldidmgjaaW.PrintMore
set_option linter.unusedVariables false
set_option linter.unusedSimpArgs false

theorem num_put8 (x : Int) (h0 : 0 ≤ x) (h1 : x ≤ 18446744073709551615) : num (putBytes 8 x) = x := by
  rw [num_put 8 x h0 (by decide), show (256 : Int) ^ (8 : Int).toNat = 18446744073709551616 by decide]
  omega
theorem tr_back (id : Int) (v t : List Int) (h : right v = true) (h0 : 0 ≤ id) (h1 : id ≤ 18446744073709551615) : tr (rowB id v ++ t) = (id, v, ((rowB id v).length : Int), 0) := by
  have e := tvg_back (putBytes 8 id) v t right (right_range h) h
  rw [put8_len] at e
  have e2 : (rowB id v ++ t).take 8 = putBytes 8 id := by rw [rowB, List.append_assoc, List.take_left' (put8_len id)]
  unfold tr tv
  rw [e2, num_put8 id h0 h1]
  unfold rowB
  rw [e, if_pos rfl]
theorem tr_short (id : Int) (v : List Int) (h : right v = true) (i : Nat) (hi : i < (rowB id v).length) : (tr ((rowB id v).take i)).2.2.2 = 7 := by
  have e : tv ((rowB id v).take i) 8 = ([], 0, 7) := by
    by_cases h8 : 8 ≤ i
    · have := tvg_short (putBytes 8 id) v right (right_range h).1 i (by rw [put8_len]; exact h8) hi
      rw [put8_len] at this
      exact this
    · exact tv_end _ 8 right (by rw [List.length_take]; omega)
  unfold tr
  rw [e, if_neg (by decide)]
theorem tver_back (b e : Int) (v t : List Int) (h : rightVer b e v = true) (h0 : 0 ≤ b) (h1 : b ≤ 18446744073709551615) (h2 : 0 ≤ e) (h3 : e ≤ 18446744073709551615) : tver (verB b e v ++ t) = (b, e, v, ((verB b e v).length : Int), 0) := by
  have hr := rightVer_right h
  have k := tvg_back (putBytes 8 b ++ putBytes 8 e) v t right (right_range hr) hr
  rw [show (putBytes 8 b ++ putBytes 8 e).length = 16 by rw [List.length_append, put8_len, put8_len]] at k
  have e2 : (verB b e v ++ t).take 8 = putBytes 8 b := by rw [verB, List.append_assoc, List.append_assoc, List.take_left' (put8_len b)]
  have e3 : ((verB b e v ++ t).drop 8).take 8 = putBytes 8 e := by rw [verB, List.append_assoc, List.append_assoc, List.drop_left' (put8_len b), List.take_left' (put8_len e)]
  unfold tver tv
  rw [e2, e3, num_put8 b h0 h1, num_put8 e h2 h3]
  unfold verB
  rw [k, if_pos rfl, if_pos h]
theorem tver_short (b e : Int) (v : List Int) (h : right v = true) (i : Nat) (hi : i < (verB b e v).length) : (tver ((verB b e v).take i)).2.2.2.2 = 7 := by
  have k : tv ((verB b e v).take i) 16 = ([], 0, 7) := by
    by_cases h8 : 16 ≤ i
    · have := tvg_short (putBytes 8 b ++ putBytes 8 e) v right (right_range h).1 i (by rw [List.length_append, put8_len, put8_len]; exact h8) hi
      rw [show (putBytes 8 b ++ putBytes 8 e).length = 16 by rw [List.length_append, put8_len, put8_len]] at this
      exact this
    · exact tv_end _ 16 right (by rw [List.length_take]; omega)
  unfold tver
  rw [k, if_neg (by decide)]

end Go.Proofs.Ytngjaaldidmgjaa.G
