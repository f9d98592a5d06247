/- The document's Seal and Open: plain; the contract of quiverref03.Open. -/
import Derived.Test.YtanijhlpneiebaaTells
import Derived.Test.YtanijhlpneiebaaSealed
import Derived.Test.YtanijhlpneiebaaR1
namespace Go.Proofs.Ytanijhlpneiebaa.G
open Go.RowKit Go.Proofs.YtanijhlpneiebaaW.PrintWords Go.Proofs.YtanijhlpneiebaaW.PrintLast Go.Proofs.YtanijhlpneiebaaW.PrintMore
set_option linter.unusedVariables false
set_option linter.unusedSimpArgs false

theorem refof_is (l : List Int) (k : Nat) (hk : l.length + 1 ≤ k) (hl : l.length ≤ 20000) (hb : ∀ x ∈ l, 0 ≤ x ∧ x ≤ 255) : P.quiverref03_Of.f k l = some (ofB l) := by
  unfold P.quiverref03_Of.f P.quiverref03_On.f
  have := on_l0 l hl hb l.length 0 k 14695981039346656037 (by omega) hk (by omega) (by omega)
  rw [List.drop_zero] at this
  rw [show (0 : Int) = ((0 : Nat) : Int) from rfl, this]
  rfl
theorem refseal_is (l : List Int) (k : Nat) (hk : l.length + 9 ≤ k) (hl : l.length ≤ 20000) (hb : ∀ x ∈ l, 0 ≤ x ∧ x ≤ 255) : P.quiverref03_Seal.f k l = some (l ++ putBytes 8 (ofB l)) := by
  have hm := ofB_inM l
  unfold P.quiverref03_Seal.f
  rw [refof_is l k (by omega) hl hb, Option.bind_some, ref_put_is l 8 _ k (by omega) (by omega) hm.1 hm.2]
  rfl
theorem seal_iff (l : List Int) (h8 : 8 ≤ l.length) (hb : ∀ x ∈ l, 0 ≤ x ∧ x ≤ 255) : l.take (l.length - 8) ++ putBytes 8 (ofB (l.take (l.length - 8))) = l ↔ num (l.drop (l.length - 8)) = ofB (l.take (l.length - 8)) := by
  have hm := ofB_inM (l.take (l.length - 8))
  generalize hq : ofB (l.take (l.length - 8)) = q at *
  have hnp : num (putBytes 8 q) = q := by
    rw [num_put 8 q hm.1 rfl]
    exact Int.emod_eq_of_lt hm.1 (by have := hm.2; simpa using this)
  constructor
  · intro e
    have e2 : l.drop (l.length - 8) = putBytes 8 q := by
      have h1 : l.take (l.length - 8) ++ putBytes 8 q = l.take (l.length - 8) ++ l.drop (l.length - 8) := by rw [e, List.take_append_drop]
      exact (List.append_cancel_left h1).symm
    rw [e2]; exact hnp
  · intro e
    have e2 : putBytes 8 q = l.drop (l.length - 8) := by
      rw [← e]
      exact put_num 8 _ rfl (by rw [List.length_drop]; show l.length - (l.length - 8) = 8; omega) (fun x hx => hb x (List.mem_of_mem_drop hx))
    rw [e2, List.take_append_drop]

set_option maxHeartbeats 2000000 in
set_option maxRecDepth 100000 in
theorem refOpen.calls (A : Option Addr) (c : Nat) (l : List Int) (w : World) (hr : Kd.C (Kd.int .u8) w A l.length l) (hc : l.length ≤ c) (hl : l.length ≤ 20000) (hb : ∀ x ∈ l, 0 ≤ x ∧ x ≤ 255) :
    Calls Try.prog 47 #[.slice A l.length c] w fun e w' => ∃ v0_ : Value, e = .returned (.tuple #[v0_, .int .i64 (openB l).2]) ∧ Kd.R (Kd.int .u8) 5 w' w.heap.size (fun _ => True) v0_ (openB l).1 ∧ Below w.heap.size w w' := by
  have HR := Aside0.mk hr
  have HC := Aside0.mk hc
  by_cases h8 : l.length < 8
  · rw [show openB l = ([], 7) by unfold openB; rw [if_pos h8]]
    have h8z : (l.length : Int) < 8 := by omega
    clear hr hc hb
    go_enter Try.func47, Try.ntmps47
    go_wp2_with fail
    go_returns
    exact ⟨_, rfl, Kd.R_nil _ _ _ _ _, Below.refl _ _⟩
  obtain ⟨m, hm⟩ : ∃ m, m + 8 = l.length := ⟨l.length - 8, by omega⟩
  have hmm : l.length - 8 = m := by omega
  have hzm : (l.length : Int) - 8 = (m : Int) := by omega
  have HCT := Aside0.mk (show Kd.C (Kd.int .u8) w A m (l.take m) by
    have := Kd.C_take (m := m) hr (by omega)
    rwa [show (l.take m).length = m by rw [List.length_take]; omega] at this)
  have htl : (l.take m).length = m := by rw [List.length_take]; omega
  have hbt : ∀ x ∈ l.take m, 0 ≤ x ∧ x ≤ 255 := fun x hx => hb x (List.mem_of_mem_take hx)
  have HSF := Aside0.mk (refseal_is (l.take m) 30000 (by omega) (by omega) hbt)
  have hiff := seal_iff l (by omega) hb
  rw [hmm] at hiff
  have hsame := same_isM 30000 (l.take m ++ putBytes 8 (ofB (l.take m))) l (by rw [List.length_append, htl, putBytes_length]; show m + 8 < _; omega) (by rw [List.length_append, htl, putBytes_length]; show m + 8 + 1 ≤ _; omega)
  generalize hsv : l.take m ++ putBytes 8 (ofB (l.take m)) = sv at *
  have hmz : (m : Int) ≤ (c : Int) := by omega
  have hm0 : (0 : Int) ≤ (m : Int) := by omega
  have hml : m ≤ l.length := by omega
  have hlz : ¬ (l.length : Int) < 8 := by omega
  have HTL := Aside0.mk htl
  have hop : openB l = if sv = l then (l.take m, 0) else ([], 130) := by
    unfold openB
    rw [if_neg h8, hmm]
    by_cases e : sv = l
    · rw [if_pos e, if_pos (hiff.1 e)]
    · rw [if_neg e, if_neg (fun h => e (hiff.2 h))]
  have HSC := fun W (h : Kd.C (Kd.int .u8) W A m (l.take m)) => P.quiverref03_Seal.calls 30000 A c (l.take m) sv W (by rw [htl]; exact h) (by omega) HSF.out
  rw [htl] at HSC
  have HSK := Aside0.mk HSC
  clear HSC HSF hiff hbt hb hsv hmm htl hr
  by_cases e : sv = l
  · rw [if_pos e] at hop
    rw [hop]
    rw [decide_eq_true e] at hsame
    have HSM := Aside0.mk hsame
    clear hsame hop hc e
    go_enter Try.func47, Try.ntmps47
    go_wp2_with fail
    refine (HSK.out w HCT.out).mono ?_
    rintro e w1 ⟨v1, rfl, ho, hb1⟩
    have HB1 := Aside0.mk hb1
    obtain ⟨A1, c1, rfl, hl1, hC1⟩ := Kd.R_reads ho
    have HC1 := Aside0.mk hC1
    have HL1 := Aside0.mk hl1
    clear ho hb1 hC1 hl1
    go_wp2_with fail
    refine (P.quiverref01_Same.calls 30000 A1 c1 sv A c l true w1 HC1.out HL1.out (Kd.C_below HR.out HB1.out) HC.out HSM.out).mono ?_
    rintro e w2 ⟨rfl, ⟨⟨nd, rfl⟩⟩⟩
    have HB2 := Aside0.mk (pw_below_drewN HB1.out nd)
    go_wp2_with (first
      | ((with_reducible refine gate_dst (N := 18) rfl ?_); refine Kd.R_lit (Kd.int .u8) (w0 := w) w.heap.size 5 ?hg (N := 18) ?hd (xs := ([] : List Int)) (inner := []) (ok := fun _ => True) (okp := fun _ => True) ?hr ?hp (fun _ hk => hk) trivial HB2.out (below_size HB2.out) (by simp) ?_; (case hd => rfl); (case hg => rfl); (case hr => first | (go_simp; done) | (go_simp; rfl)); (case hp => exact (Reps.none _ _)); intro v18 w3 ho10 hb hg_ hnew_; clear hg_ hnew_; have HO := Aside0.mk ho10; have HB3 := Aside0.mk hb; clear ho10 hb)
      | ((with_reducible refine gate_builtin (b := .append) (xs := #[.tmp 18, .tmp 21]) rfl ?_); at_builtin; refine Kd.R_append_rows (Kd.int .u8) (w0 := w) w.heap.size rfl (.tmp 18) (.tmp 21) 22 5 (.int .u8 0) 1 rfl Try.underlying22 info_u8 rfl (by decide) (by omega) v18 [] (l.take m) A m c (fun _ => True) (fun _ => False) rfl rfl HO.out (Kd.C_below HCT.out HB3.out) (fun _ _ h => h) (fun _ h => h.elim) (fun _ _ => trivial) HB3.out (below_size HB3.out) (by simp; omega) ?_; intro v20 w4 ho hb hg hat; clear hg hat; have HO4 := Aside0.mk ho; have HB4 := Aside0.mk hb; clear ho hb))
    go_returns
    exact ⟨_, rfl, HO4.out, HB4.out⟩
  · rw [if_neg e] at hop
    rw [hop]
    rw [decide_eq_false e] at hsame
    have HSM := Aside0.mk hsame
    clear hsame hop hc e
    go_enter Try.func47, Try.ntmps47
    go_wp2_with fail
    refine (HSK.out w HCT.out).mono ?_
    rintro e w1 ⟨v1, rfl, ho, hb1⟩
    have HB1 := Aside0.mk hb1
    obtain ⟨A1, c1, rfl, hl1, hC1⟩ := Kd.R_reads ho
    have HC1 := Aside0.mk hC1
    have HL1 := Aside0.mk hl1
    clear ho hb1 hC1 hl1
    go_wp2_with fail
    refine (P.quiverref01_Same.calls 30000 A1 c1 sv A c l false w1 HC1.out HL1.out (Kd.C_below HR.out HB1.out) HC.out HSM.out).mono ?_
    rintro e w2 ⟨rfl, ⟨⟨nd, rfl⟩⟩⟩
    have HB2 := Aside0.mk (pw_below_drewN HB1.out nd)
    go_wp2_with fail
    go_returns
    exact ⟨_, rfl, Kd.R_nil _ _ _ _ _, HB2.out⟩

end Go.Proofs.Ytanijhlpneiebaa.G
