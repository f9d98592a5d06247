/- Contract of mark.Open. -/
import Derived.Test.YtanijhlpneiebaaG5
import Derived.Test.YtanijhlpneiebaaPxL1
namespace Go.Proofs.Ytanijhlpneiebaa.G
open Go.RowKit Go.Proofs.YtanijhlpneiebaaW.PrintWords Go.Proofs.YtanijhlpneiebaaW.PrintLast Go.Proofs.YtanijhlpneiebaaW.PrintMore
set_option linter.unusedVariables false
set_option linter.unusedSimpArgs false

/-- A mark. -/
def ofB (l : List Int) : Int := l.foldl onStep 14695981039346656037
def openB (l : List Int) : List Int × Int :=
  if l.length < 8 then ([], 7) else if num (l.drop (l.length - 8)) = ofB (l.take (l.length - 8)) then (l.take (l.length - 8), 0) else ([], 130)
def mark_Open.f (l : List Int) : Option (List Int × Int) := if bytesOk l = true ∧ l.length < 140737488355328 then some (openB l) else none

set_option maxHeartbeats 2000000 in
set_option maxRecDepth 100000 in
theorem mark_Open.calls (A0 : Option Addr) (c0 : Nat) (l0 : List Int) (r1 : List Int) (r2 : Int) (w : World) (hr0 : Kd.C (Kd.int .u8) w A0 l0.length l0) (hc0 : l0.length ≤ c0) (h : mark_Open.f l0 = some (r1, r2)) :
    Calls Try.prog 46 #[.slice A0 l0.length c0] w fun e w' => ∃ v0_ : Value, e = .returned (.tuple #[v0_, .int .i64 r2]) ∧ Kd.R (Kd.int .u8) 5 w' w.heap.size (fun _ => True) v0_ r1 ∧ Below w.heap.size w w' := by
  unfold mark_Open.f at h
  split at h
  case isFalse => cases h
  case isTrue hb =>
  obtain ⟨hb, hlen⟩ := hb
  have h' := Option.some.inj h
  clear h
  have hby := (bytesOk_iff l0).1 hb
  unfold openB at h'
  by_cases h8 : l0.length < 8
  · rw [if_pos h8] at h'
    obtain ⟨rfl, rfl⟩ := Prod.mk.inj h'
    have hw : IntKind.i64.wrap ((l0.length : Int) - 8) = (l0.length : Int) - 8 := IntWalk.i64_in _ (by omega)
    clear h' hb hby hr0
    go_enter Try.func46, Try.ntmps46
    go_wp2_with fail
    go_returns
    exact ⟨_, rfl, Kd.R_nil _ _ _ _ _, Below.refl _ _⟩
  rw [if_neg h8] at h'
  obtain ⟨n, hn⟩ : ∃ n, l0.length = n + 8 := ⟨l0.length - 8, by omega⟩
  have hn2 : l0.length - 8 = n := by omega
  rw [hn2] at h'
  cases A0 with
  | none =>
    obtain ⟨ad, e, _⟩ := hr0.2.2 (by omega)
    cases e
  | some ad =>
    have htl : (l0.take n).length = n := by rw [List.length_take]; omega
    have hdl : (l0.drop n).length = 8 := by rw [List.length_drop]; omega
    have hT0 := Kd.C_take hr0 (show n ≤ l0.length by omega)
    have hD0 : Kd.C (Kd.int .u8) w (some (ad.add n)) (l0.drop n).length (l0.drop n) := by
      have h2 := C_sub (lo := n) (n := 8) hr0 (by omega)
      rw [show (Kd.int IntKind.u8).sz = 1 from rfl, Nat.mul_one, List.take_of_length_le (by omega)] at h2
      rw [hdl]; exact h2
    have hoft : bytesOk (l0.take n) = true := (bytesOk_iff _).2 (fun x hx => hby x (List.mem_of_mem_take hx))
    have hOf : P.mark_Of.f (l0.take n) = some (ofB (l0.take n)) := by
      unfold P.mark_Of.f mark_On.f
      rw [if_pos hoft]
      rfl
    have hdby : ∀ x ∈ l0.drop n, 0 ≤ x ∧ x ≤ 255 := fun x hx => hby x (List.mem_of_mem_drop hx)
    have hw : IntKind.i64.wrap ((l0.length : Int) - 8) = (n : Int) := by rw [hn]; exact (IntWalk.i64_in _ (by omega)).trans (by omega)
    generalize l0.take n = t at *
    generalize l0.drop n = d at *
    have hRead := ScRead (some (ad.add n)) (c0 - n) d w hD0 (by omega) (by omega) hdby
    have hOfC := fun (W : World) (hW : Below w.heap.size w W) => P.mark_Of.calls (some ad) n t (ofB t) W (Kd.C_below hT0 hW) (by omega) hOf
    have hClone := fun (W : World) (hW : Below w.heap.size w W) => slices_Clone.calls (some ad) n t t W (Kd.C_below hT0 hW) (by omega) (by unfold slices_Clone.f; rw [if_pos (by omega)])
    rw [hdl] at hRead
    rw [htl] at hOfC hClone
    have HRead := Aside0.mk hRead
    have HOf := Aside0.mk hOfC
    have HClone := Aside0.mk hClone
    have HDL := Aside0.mk hdl
    have HR := Aside0.mk h'
    clear hRead hOfC hClone hdl htl hT0 hD0 hoft hOf hdby h' hby hr0 hb hn2
    go_enter Try.func46, Try.ntmps46
    go_wp2_with fail
    refine HRead.out.mono ?_
    rintro e w1 ⟨g, rfl, hI, hb1⟩
    have HI := Aside0.mk (hI.lower (Nat.le_refl _))
    have HB1 := Aside0.mk hb1
    have HG := Aside0.mk hI.ge
    have F1 := fits_yes d 0 8 (by rw [HDL.out]; omega) (by omega)
    have hnm := ScNum w.heap.size _ g d 0 false ((8 : Nat) : Int) w1 hI
    rw [sizeOr_yes (show isSize ((8 : Nat) : Int) = true from rfl), scTake_yes F1, scPl_yes F1, scBad_yes F1, List.drop_zero, List.take_of_length_le (by rw [HDL.out]; omega)] at hnm
    have HN := Aside0.mk hnm
    clear hnm F1 hI hb1
    go_wp2_with fail
    refine HN.out.mono ?_
    rintro e w2 ⟨rfl, hi2, hf2⟩
    have HB2 := Aside0.mk (HB1.out.trans (hf2.toBelow HB1.out.size (fun j hj => by subst hj; exact HG.out)))
    clear hi2 hf2 HN
    go_wp2_with fail
    refine (HOf.out w2 HB2.out).mono ?_
    rintro e w3 ⟨rfl, hb3⟩
    have HB3 := Aside0.mk (below_step HB2.out hb3)
    clear hb3
    generalize num d = X at *
    generalize ofB t = Y at *
    by_cases hq : X = Y
    · have h' := HR.out
      rw [if_pos hq] at h'
      obtain ⟨rfl, rfl⟩ := Prod.mk.inj h'
      clear h'
      subst hq
      go_wp2_with fail
      refine (HClone.out w3 HB3.out).mono ?_
      rintro e w4 ⟨v4, rfl, hR4, hb4⟩
      have HR4 := Aside0.mk (Kd.R_lower hR4 HB3.out.size)
      have HB4 := Aside0.mk (below_step HB3.out hb4)
      clear hR4 hb4
      go_wp2_with fail
      go_returns
      exact ⟨_, rfl, HR4.out, HB4.out⟩
    · have h' := HR.out
      rw [if_neg hq] at h'
      obtain ⟨rfl, rfl⟩ := Prod.mk.inj h'
      clear h'
      go_wp2_with fail
      go_returns
      exact ⟨_, rfl, Kd.R_nil _ _ _ _ _, HB3.out⟩

end Go.Proofs.Ytanijhlpneiebaa.G
