/- quiverlaw07.CodecApart answers true for every two rows and two versions. -/
import Derived.Test.YtngjaaldidmgjaaB7
import Derived.Test.YtngjaaldidmgjaaW7
import Derived.Test.YtngjaaldidmgjaaA7
import Derived.Test.YtngjaaldidmgjaaPxApart
namespace Go.Proofs.Ytngjaaldidmgjaa.G
open Go.Shelf Go.RowKit Go.Proofs.YtngjaaldidmgjaaW.PrintWords Go.Proofs.YtngjaaldidmgjaaW.PrintLast Go.Proofs.YtngjaaldidmgjaaW.PrintMore
set_option linter.unusedVariables false
set_option linter.unusedSimpArgs false

theorem alike_pre {l m : List Int} (h : alike l m = true) : (∃ t, m = l ++ t) ∨ ∃ t, l = m ++ t := by
  have h := of_decide_eq_true h
  by_cases hl : l.length ≤ m.length
  · rw [Nat.min_eq_left hl, List.take_length] at h
    exact .inl ⟨m.drop l.length, by rw [h]; simp [List.length_take, Nat.min_eq_left hl]⟩
  · rw [Nat.min_eq_right (by omega), List.take_length] at h
    exact .inr ⟨l.drop m.length, by rw [← h]; simp [List.length_take, Nat.min_eq_left (show m.length ≤ l.length by omega)]⟩
theorem alike_self (l : List Int) : alike l l = true := decide_eq_true rfl
theorem row_inj {a c : Int} {u v : List Int} (hu : right u = true) (hv : right v = true) (ha : 0 ≤ a ∧ a ≤ 18446744073709551615) (hc : 0 ≤ c ∧ c ≤ 18446744073709551615) {t : List Int} (h : rowB c v = rowB a u ++ t) : a = c ∧ u = v := by
  have h1 := tr_back a u t hu ha.1 ha.2
  have h2 := tr_back c v [] hv hc.1 hc.2
  rw [List.append_nil, h, h1] at h2
  simp only [Prod.mk.injEq] at h2
  exact ⟨h2.1, h2.2.1⟩
theorem row_alike {a c : Int} {u v : List Int} (hu : right u = true) (hv : right v = true) (ha : 0 ≤ a ∧ a ≤ 18446744073709551615) (hc : 0 ≤ c ∧ c ≤ 18446744073709551615) : alike (rowB a u) (rowB c v) = decide (a = c ∧ u = v) := by
  cases h : alike (rowB a u) (rowB c v) with
  | true =>
    symm
    apply decide_eq_true
    rcases alike_pre h with ⟨t, h⟩ | ⟨t, h⟩
    · exact row_inj hu hv ha hc h
    · have := row_inj hv hu hc ha h
      exact ⟨this.1.symm, this.2.symm⟩
  | false =>
    symm
    apply decide_eq_false
    rintro ⟨rfl, rfl⟩
    rw [alike_self] at h
    cases h
theorem ver_inj {a b c d : Int} {u v : List Int} (hu : rightVer a b u = true) (hv : rightVer c d v = true) (ha : 0 ≤ a ∧ a ≤ 18446744073709551615) (hb : 0 ≤ b ∧ b ≤ 18446744073709551615) (hc : 0 ≤ c ∧ c ≤ 18446744073709551615) (hd : 0 ≤ d ∧ d ≤ 18446744073709551615) {t : List Int} (h : verB c d v = verB a b u ++ t) : a = c ∧ b = d ∧ u = v := by
  have h1 := tver_back a b u t hu ha.1 ha.2 hb.1 hb.2
  have h2 := tver_back c d v [] hv hc.1 hc.2 hd.1 hd.2
  rw [List.append_nil, h, h1] at h2
  simp only [Prod.mk.injEq] at h2
  exact ⟨h2.1, h2.2.1, h2.2.2.1⟩
theorem ver_alike {a b c d : Int} {u v : List Int} (hu : rightVer a b u = true) (hv : rightVer c d v = true) (ha : 0 ≤ a ∧ a ≤ 18446744073709551615) (hb : 0 ≤ b ∧ b ≤ 18446744073709551615) (hc : 0 ≤ c ∧ c ≤ 18446744073709551615) (hd : 0 ≤ d ∧ d ≤ 18446744073709551615) : alike (verB a b u) (verB c d v) = decide (a = c ∧ b = d ∧ u = v) := by
  cases h : alike (verB a b u) (verB c d v) with
  | true =>
    symm
    apply decide_eq_true
    rcases alike_pre h with ⟨t, h⟩ | ⟨t, h⟩
    · exact ver_inj hu hv ha hb hc hd h
    · have := ver_inj hv hu hc hd ha hb h
      exact ⟨this.1.symm, this.2.1.symm, this.2.2.symm⟩
  | false =>
    symm
    apply decide_eq_false
    rintro ⟨rfl, rfl, rfl⟩
    rw [alike_self] at h
    cases h
theorem asamerow_is (k : Nat) (a : Int) (l : List Int) (c : Int) (m : List Int) (hk : l.length < k) (hl : l.length ≤ 9223372036854775807) : P.codec_SameRow.f k a l c m = some (decide (a = c ∧ l = m)) := by
  unfold P.codec_SameRow.f
  rw [same_is k l m hk hl, Option.bind_some]
  by_cases h1 : a = c
  · rw [if_pos h1]; simp [h1]
  · rw [if_neg h1]; simp [h1]
theorem not_beq_self (b : Bool) : ((!b) == b) = false := by cases b <;> rfl
theorem not_bne_self (b : Bool) : ((!b) != b) = true := by cases b <;> rfl
theorem apart_j1 (a b : Int) (u : List Int) (c d : Int) (v : List Int) (ha : 0 ≤ a ∧ a ≤ 18446744073709551615) (hb : 0 ≤ b ∧ b ≤ 18446744073709551615) (hc : 0 ≤ c ∧ c ≤ 18446744073709551615) (hd : 0 ≤ d ∧ d ≤ 18446744073709551615) (k : Nat) (hk : 200 ≤ k) : P.quiverlaw07_CodecApart.j1 k false a b u c d v = some true := by
  obtain ⟨k, rfl⟩ : ∃ q, k = q + 1 := ⟨k - 1, by omega⟩
  rw [P.quiverlaw07_CodecApart.j1, if_neg (by decide), codec_Version.f, Option.bind_some, codec_Version.f, Option.bind_some]
  by_cases h1 : rightVer a b u = true
  · by_cases h2 : rightVer c d v = true
    · have hl := verB_len a b u
      have hr := (right_range (rightVer_right h1)).1
      rw [if_pos h1, if_pos h2]
      dsimp only
      rw [if_pos rfl, if_pos rfl, apart1.f, Option.bind_some, codec_SameVersion.f, Option.bind_some, ver_alike h1 h2 ha hb hc hd, not_bne_self]
    · rw [if_pos h1, if_neg h2]
      dsimp only
      rw [if_pos rfl, if_neg (by decide)]
  · rw [if_neg h1]
    dsimp only
    rw [if_neg (by decide)]
theorem apart_pure (a : Int) (u : List Int) (c : Int) (v : List Int) (p q : Int) (x : List Int) (r s : Int) (y : List Int) (ha : 0 ≤ a ∧ a ≤ 18446744073709551615) (hc : 0 ≤ c ∧ c ≤ 18446744073709551615) (hp : 0 ≤ p ∧ p ≤ 18446744073709551615) (hq : 0 ≤ q ∧ q ≤ 18446744073709551615) (hr : 0 ≤ r ∧ r ≤ 18446744073709551615) (hs : 0 ≤ s ∧ s ≤ 18446744073709551615) :
    P.quiverlaw07_CodecApart.f 210 a u c v p q x r s y = some true := by
  have hj : P.quiverlaw07_CodecApart.j0 210 true a u c v p q x r s y = some true := by rw [P.quiverlaw07_CodecApart.j0, if_pos rfl]
  unfold P.quiverlaw07_CodecApart.f
  rw [wakes07_is, Option.bind_some, if_pos rfl]
  by_cases h1 : (u.length : Int) > 100
  · rw [if_pos h1]; exact hj
  · rw [if_neg h1]
    by_cases h2 : (v.length : Int) > 100
    · rw [if_pos h2]; exact hj
    · rw [if_neg h2]
      by_cases h3 : (x.length : Int) > 100
      · rw [if_pos h3]; exact hj
      · rw [if_neg h3]
        by_cases h4 : (y.length : Int) > 100
        · rw [decide_eq_true h4]; exact hj
        · have hz := apart_j1 p q x r s y hp hq hr hs 209 (by omega)
          rw [decide_eq_false h4, P.quiverlaw07_CodecApart.j0, if_neg (by decide), codec_Row.f, Option.bind_some, codec_Row.f, Option.bind_some]
          by_cases g1 : right u = true
          · by_cases g2 : right v = true
            · have hl := rowB_len a u
              rw [if_pos g1, if_pos g2]
              dsimp only
              rw [if_pos rfl, if_pos rfl, apart1.f, Option.bind_some, asamerow_is 209 _ _ _ _ (by omega) (by omega), Option.bind_some, row_alike g1 g2 ha hc, not_beq_self]
              exact hz
            · rw [if_pos g1, if_neg g2]
              dsimp only
              rw [if_pos rfl, if_neg (by decide)]
              exact hz
          · rw [if_neg g1]
            dsimp only
            rw [if_neg (by decide)]
            exact hz

theorem arr2v {W : World} {x : List (Int × Int × List Int)} {cs : Array Value} (hK : (Kd.arr 2 kVer (by decide)).K W x cs.toList) : ∃ m n, x = [m, n] ∧ ∃ A0 c0 A1 c1, cs = #[.int .u64 m.1, .int .u64 m.2.1, .slice A0 m.2.2.length c0, .int .u64 n.1, .int .u64 n.2.1, .slice A1 n.2.2.length c1] ∧ (m.2.2.length ≤ c0 ∧ Kd.C (Kd.int .i32) W A0 m.2.2.length m.2.2) ∧ (n.2.2.length ≤ c1 ∧ Kd.C (Kd.int .i32) W A1 n.2.2.length n.2.2) := by
  obtain ⟨hx, hl, hr⟩ := hK
  match x, hx with
  | [m, n], _ =>
    obtain ⟨A0, c0, h0, h1⟩ := kVer_cells (hr 0 m rfl)
    obtain ⟨A1, c1, h2, h3⟩ := kVer_cells (hr 1 n rfl)
    have hl' : cs.toList.length = 6 := hl
    refine ⟨m, n, rfl, A0, c0, A1, c1, ?_, h1, h3⟩
    apply Array.toList_inj.1
    generalize cs.toList = c at *
    have e0 : (c.drop (0 * 3)).take 3 = [.int .u64 m.1, .int .u64 m.2.1, .slice A0 m.2.2.length c0] := h0
    have e1 : (c.drop (1 * 3)).take 3 = [.int .u64 n.1, .int .u64 n.2.1, .slice A1 n.2.2.length c1] := h2
    match c, hl' with
    | [u0, u1, u2, u3, u4, u5], _ =>
      simp at e0 e1
      obtain ⟨rfl, rfl, rfl⟩ := e0
      obtain ⟨rfl, rfl, rfl⟩ := e1
      rfl
theorem codecApart.walk (x : Int × List Int) (cs : Array Value) (y : Int × List Int) (ds : Array Value) (z : List (Int × Int × List Int)) (es : Array Value) (W : World) (hK : kRow.K W x cs.toList) (wx : wRow x) (hV : kRow.K W y ds.toList) (wy : wRow y) (hZ : (Kd.arr 2 kVer (by decide)).K W z es.toList) (wz : ∀ v ∈ z, wVer v) :
    Calls Try.prog 5 #[.agg cs, .agg ds, .agg es] W fun e w' => e = .returned (.bool true) ∧ Below W.heap.size W w' := by
  obtain ⟨A0, c0, rfl, h0, hC0⟩ := kRow_open hK
  obtain ⟨A1, c1, rfl, h1, hC1⟩ := kRow_open hV
  obtain ⟨m, n, rfl, A2, c2, A3, c3, rfl, ⟨h2, hC2⟩, ⟨h3, hC3⟩⟩ := arr2v hZ
  have w2 := wz m (by simp)
  have w3 := wz n (by simp)
  exact P.quiverlaw07_CodecApart.calls 210 x.1 A0 c0 x.2 y.1 A1 c1 y.2 m.1 m.2.1 A2 c2 m.2.2 n.1 n.2.1 A3 c3 n.2.2 true W hC0 h0 hC1 h1 hC2 h2 hC3 h3 (apart_pure x.1 x.2 y.1 y.2 m.1 m.2.1 m.2.2 n.1 n.2.1 n.2.2 (wf_u64 wx.1) (wf_u64 wy.1) (wf_u64 w2.1) (wf_u64 w2.2.1) (wf_u64 w3.1) (wf_u64 w3.2.1))

end Go.Proofs.Ytngjaaldidmgjaa.G
