/- The reader: what vec reads. -/
import Derived.Test.YtngjaaldidmgjaaC1
import Derived.Test.YtngjaaldidmgjaaG5
import Derived.Deep.CutRange
namespace Go.Proofs.Ytngjaaldidmgjaa.G
open Go.Shelf Go.RowKit Go.Proofs.YtngjaaldidmgjaaW.PrintWords Go.Proofs.YtngjaaldidmgjaaW.PrintLast Go.Proofs.YtngjaaldidmgjaaW.PrintMore
set_option linter.unusedVariables false
set_option linter.unusedSimpArgs false

theorem info_i32 : (Try.prog.info? 21).map (fun i => (i.zero, i.size, i.bytes)) = some (some (.int .i32 0), 1, 4) := by kernel_rfl
/-- The reader at block r over the scan at block g. -/
def IsRd (w : World) (base : Nat) (ok : Nat → Prop) (r g : Nat) (bs : List Int) (pl : Nat) (sb rb : Bool) : Prop :=
  w.heap[r]? = some (.cells #[.pointer (some ⟨g, 0, none⟩), .bool rb] 109 (0, 0)) ∧ ¬ ok r ∧ r ≠ g ∧ IsScan w base ok g bs pl sb
def vint (bs : List Int) (pl : Nat) (sb : Bool) : Int := signed 4 (num (scTake bs pl sb 4))
def vloop (bs : List Int) : Nat → List Int × Nat × Bool → List Int × Nat × Bool
  | 0, s => s
  | n + 1, s => vloop bs n (s.1 ++ [vint bs s.2.1 s.2.2], scPl bs.length s.2.1 s.2.2 4, scBad bs.length s.2.1 s.2.2 4)
def rdN (bs : List Int) (pl : Nat) (sb : Bool) : Int := num (scTake bs pl sb 1)
def rdVec (bs : List Int) (pl : Nat) (sb rb : Bool) : List Int × Nat × Bool × Bool :=
  if scBad bs.length pl sb 1 = true then ([], scPl bs.length pl sb 1, true, rb)
  else if rdN bs pl sb < 1 ∨ 4 < rdN bs pl sb then ([], scPl bs.length pl sb 1, false, true)
  else ((vloop bs (rdN bs pl sb).toNat ([], scPl bs.length pl sb 1, false)).1, (vloop bs (rdN bs pl sb).toNat ([], scPl bs.length pl sb 1, false)).2.1, (vloop bs (rdN bs pl sb).toNat ([], scPl bs.length pl sb 1, false)).2.2, rb)
theorem vint_range (bs : List Int) (pl : Nat) (sb : Bool) (hby : ∀ x ∈ bs, 0 ≤ x ∧ x ≤ 255) : -2147483648 ≤ vint bs pl sb ∧ vint bs pl sb ≤ 2147483647 := by
  have h := scTake_range bs pl sb 4 hby
  rw [show (256 : Int) ^ (4 : Int).toNat = 4294967296 by decide] at h
  unfold vint signed
  rw [if_pos (by decide), show (256 : Int) ^ (4 : Int).toNat = 4294967296 by decide]
  split <;> omega
theorem IsRd.fr {w w1 : World} {base : Nat} {ok : Nat → Prop} {r g : Nat} {bs : List Int} {pl : Nat} {sb rb : Bool} (h : IsRd w base ok r g bs pl sb rb) (hf : Fr (· = g) w w1) {pl' : Nat} {sb' : Bool} (hI : IsScan w1 base ok g bs pl' sb') : IsRd w1 base ok r g bs pl' sb' rb :=
  ⟨(hf.block (blk_lt h.1) h.2.2.1).trans h.1, h.2.1, h.2.2.1, hI⟩

theorem IsRd.below {w w1 : World} {base : Nat} {ok : Nat → Prop} {r g : Nat} {bs : List Int} {pl : Nat} {sb rb : Bool} (h : IsRd w base ok r g bs pl sb rb) (hb : Below w.heap.size w w1) : IsRd w1 base ok r g bs pl sb rb :=
  ⟨blk_below h.1 hb, h.2.1, h.2.2.1, h.2.2.2.fr (Fr.of_below (S := fun _ => False) hb) (fun _ _ h => h)⟩

theorem Fr.low {S : Nat → Prop} {w w1 w2 : World} (h : Fr S w w1) (hb : Below w.heap.size w1 w2) : Fr S w w2 :=
  ⟨hb.os.trans h.os, hb.tape.trans h.tape, hb.output.trans h.output, ⟨Nat.le_trans h.size hb.size, fun k hk hs => (hb.block k hk).trans (h.block hk hs)⟩⟩
theorem IsRd.low {w w1 w2 : World} {base : Nat} {ok : Nat → Prop} {r g : Nat} {bs : List Int} {pl : Nat} {sb rb : Bool} (h : IsRd w1 base ok r g bs pl sb rb) (hb : Below w.heap.size w1 w2) (hr : r < w.heap.size) (hok : ∀ k, ok k → k < w.heap.size) : IsRd w2 base ok r g bs pl sb rb :=
  ⟨(hb.block r hr).trans h.1, h.2.1, h.2.2.1, h.2.2.2.step (fun k hk _ => hb.block k (hok k hk))⟩

set_option maxHeartbeats 2000000 in
set_option maxRecDepth 100000 in
theorem rdVec_go0 (base : Nat) (ok : Nat → Prop) (r g : Nat) (bs : List Int) (pl : Nat) (sb rb : Bool) (w : World) (hI : IsRd w base ok r g bs pl sb rb) (hok : ∀ k, ok k → k < w.heap.size) :
    Calls Try.prog 70 #[.pointer (some ⟨r, 0, none⟩)] w fun e w' => ∃ v0_ : Value, e = .returned v0_ ∧ Kd.R (Kd.int .i32) 21 w' w.heap.size (fun _ => True) v0_ (rdVec bs pl sb rb).1 ∧ IsRd w' base ok r g bs (rdVec bs pl sb rb).2.1 (rdVec bs pl sb rb).2.2.1 (rdVec bs pl sb rb).2.2.2 ∧ Fr (fun k => k = g ∨ k = r) w w' := by
  have HI := Aside0.mk hI
  have HOKW := Aside0.mk hok
  have HRW := Aside0.mk (blk_lt hI.1)
  have HGW := Aside0.mk hI.2.2.2.lt
  clear hok
  have hby := hI.2.2.2.bytes
  have HBY := Aside0.mk hby
  have q0 : w.cell? ⟨r, 0, none⟩ = some (.pointer (some ⟨g, 0, none⟩)) := (blk_cell hI.1 0).trans rfl
  have HNUM := Aside0.mk (ScNum base ok g bs pl sb 1 w hI.2.2.2)
  rw [show sizeOr 1 = 1 from rfl] at HNUM
  have hn0 := scTake_range bs pl sb 1 hby
  rw [show (256 : Int) ^ (1 : Int).toNat = 256 by decide] at hn0
  obtain ⟨hn1, hn2⟩ := hn0
  have HRV := Aside0.mk (show rdVec bs pl sb rb = (if scBad bs.length pl sb 1 = true then ([], scPl bs.length pl sb 1, true, rb)
    else if num (scTake bs pl sb 1) < 1 ∨ 4 < num (scTake bs pl sb 1) then ([], scPl bs.length pl sb 1, false, true)
    else ((vloop bs (num (scTake bs pl sb 1)).toNat ([], scPl bs.length pl sb 1, false)).1, (vloop bs (num (scTake bs pl sb 1)).toNat ([], scPl bs.length pl sb 1, false)).2.1, (vloop bs (num (scTake bs pl sb 1)).toNat ([], scPl bs.length pl sb 1, false)).2.2, rb)) from rfl)
  generalize rdVec bs pl sb rb = res at *
  generalize num (scTake bs pl sb 1) = n at *
  generalize scPl bs.length pl sb 1 = pl1 at *
  generalize scBad bs.length pl sb 1 = sb1 at *
  clear hI hby
  go_enter Try.func70, Try.ntmps70
  go_wp2_with fail
  refine HNUM.out.mono ?_
  rintro e w1 ⟨rfl, hI1, hf1⟩
  have HI1 := Aside0.mk (HI.out.fr hf1 hI1)
  have HF1 := Aside0.mk (hf1.mono (S' := fun k => k = g ∨ k = r) (fun _ h => .inl h))
  have q1 : w1.cell? ⟨r, 0, none⟩ = some (.pointer (some ⟨g, 0, none⟩)) := (blk_cell HI1.out.1 0).trans rfl
  clear q0 hI1 hf1 HNUM HI
  go_wp2_with fail
  refine (ScBadq base ok g bs pl1 sb1 w1 HI1.out.2.2.2).mono ?_
  rintro e w2 ⟨rfl, hd2⟩
  have HI2 := Aside0.mk (HI1.out.below hd2.below)
  have HF2 := Aside0.mk (HF1.out.below hd2.below)
  clear HI1 HF1 hd2 q1
  obtain ⟨w1, rfl⟩ : ∃ w1, w1 = w2 := ⟨_, rfl⟩
  have HI1 := HI2
  have HF1 := HF2
  clear HI2 HF2
  cases sb1 with
  | true =>
    rw [if_pos rfl] at HRV
    have h := HRV.out
    subst h
    clear HRV
    go_wp2_with fail
    go_returns
    exact ⟨_, rfl, Kd.R_nil _ _ _ _ _, HI1.out, HF1.out⟩
  | false =>
    rw [if_neg (by decide)] at HRV
    by_cases hn : n < 1 ∨ 4 < n
    · rw [if_pos hn] at HRV
      have h := HRV.out
      subst h
      have fz : w1.frozen? ⟨r, 1, none⟩ = false := blk_frozen HI1.out.1 1
      have q2 : w1.cell? ⟨r, 1, none⟩ = some (.bool rb) := (blk_cell HI1.out.1 1).trans rfl
      have HS := Aside0.mk (show IsRd (w1.setCell ⟨r, 1, none⟩ (.bool true)) base ok r g bs pl1 false true from
        ⟨by simpa using blk_set HI1.out.1 1 (.bool true), HI1.out.2.1, HI1.out.2.2.1, HI1.out.2.2.2.fr ((Fr.refl (fun k => k = r) w1).setCell (p := ⟨r, 1, none⟩) (.inl rfl) _) (fun k hk e => HI1.out.2.1 (by rw [← e]; exact hk))⟩)
      have HFS := Aside0.mk (HF1.out.setCell (p := ⟨r, 1, none⟩) (.inl (.inr rfl)) (.bool true))
      clear HRV
      by_cases hn3 : n < 1
      · clear hn
        go_wp2_with fail
        go_returns
        exact ⟨_, rfl, Kd.R_nil _ _ _ _ _, HS.out, HFS.out⟩
      · have hn4 : 4 < n := by omega
        clear hn
        go_wp2_with fail
        go_returns
        exact ⟨_, rfl, Kd.R_nil _ _ _ _ _, HS.out, HFS.out⟩
    · rw [if_neg hn] at HRV
      obtain ⟨m, rfl⟩ : ∃ m : Nat, n = (m : Int) := ⟨n.toNat, by omega⟩
      have hm1 : 1 ≤ m := by omega
      have hm4 : m ≤ 4 := by omega
      rw [Int.toNat_natCast] at HRV
      have k1 : ¬ (m : Int) < 1 := by omega
      have k2 : ¬ (4 : Int) < (m : Int) := by omega
      obtain ⟨fin, hfin⟩ : ∃ fin, fin = vloop bs m ([], pl1, false) := ⟨_, rfl⟩
      rw [← hfin] at HRV
      have HFIN := Aside0.mk hfin
      have HR0 := Aside0.mk (Kd.R_nil (Kd.int .i32) 21 w1 w.heap.size (fun _ => True))
      clear hn hn1 hn2 hfin
      go_wp2_with fail
      go_loopg [4, 26] m (fun gg v4 s26 wr => ∃ (kk : Nat) (xs : List Int) (plk : Nat) (sbk : Bool), kk ≤ m ∧ m - kk ≤ gg ∧ s26 = .int .i64 kk ∧ Aside0 (xs.length = kk) ∧ Aside0 (fin = vloop bs (m - kk) (xs, plk, sbk)) ∧ Aside0 (Kd.R (Kd.int .i32) 21 wr w.heap.size (fun _ => True) v4 xs) ∧ Aside0 (IsRd wr base ok r g bs plk sbk rb) ∧ Aside0 (Fr (fun k => k = g ∨ k = r) w wr))
      case atStart => exact ⟨0, [], pl1, false, by omega, by omega, rfl, ⟨rfl⟩, HFIN, HR0, HI1, HF1⟩
      case round =>
        obtain ⟨kk, xs, plk, sbk, hkk, hg, rfl, HXL, HFK, HOk, HIk, HFr⟩ := hrel
        by_cases hlt : kk < m
        · have hltz : (kk : Int) < (m : Int) := by omega
          have q0 : wr.cell? ⟨r, 0, none⟩ = some (.pointer (some ⟨g, 0, none⟩)) := (blk_cell HIk.out.1 0).trans rfl
          have HINT := Aside0.mk (ScInt base ok g bs plk sbk 4 wr HIk.out.2.2.2)
          rw [show sizeOr 4 = 4 from rfl] at HINT
          obtain ⟨hv1, hv2⟩ := vint_range bs plk sbk HBY.out
          have HFN := Aside0.mk (show fin = vloop bs (m - (kk + 1)) (xs ++ [vint bs plk sbk], scPl bs.length plk sbk 4, scBad bs.length plk sbk 4) by
            rw [HFK.out, show m - kk = (m - (kk + 1)) + 1 by omega]; rfl)
          have HXN := Aside0.mk (show (xs ++ [vint bs plk sbk]).length = kk + 1 by rw [List.length_append, HXL.out]; rfl)
          have hint := HINT.out
          rw [show signed 4 (num (scTake bs plk sbk 4)) = vint bs plk sbk from rfl] at hint
          have HIN2 := Aside0.mk hint
          generalize vint bs plk sbk = x at *
          clear hint HINT
          obtain ⟨wo, rfl⟩ : ∃ wo, wo = wr := ⟨_, rfl⟩
          go_wp2_with fail
          refine HIN2.out.mono ?_
          rintro e w3 ⟨rfl, hI3, hf3⟩
          have HI3 := Aside0.mk (HIk.out.fr hf3 hI3)
          have HF3 := Aside0.mk (HFr.out.trans (hf3.mono (S' := fun k => k = g ∨ k = r) (fun _ h => .inl h)))
          have HO3 := Aside0.mk (show Kd.R (Kd.int .i32) 21 w3 w.heap.size (fun _ => True) u4 xs from Kd.R_mono (Kd.R_kept (Kd.R_bound HOk.out) hf3.kept (fun k hk e => by have h1 := hk.2.1; have h2 := HGW.out; omega)) (fun _ _ => trivial))
          have hx3 := HXL.out
          have hs3 := HF3.out.size
          clear hI3 hf3 q0
          go_wp2_with ((with_reducible refine gate_builtin (b := .append) (xs := #[.tmp 28, .tmp 35]) rfl ?_); at_builtin; refine Kd.R_append (Kd.int .i32) (w0 := w3) w.heap.size rfl (.tmp 28) (.tmp 35) 40 21 (.int .i32 0) 4 rfl Try.underlying40 info_i32 rfl (by decide) (by omega) u4 xs x [.int .i32 x] (fun _ => True) (fun _ => False) rfl rfl rfl (fun _ hk => hk.elim) (fun _ _ => trivial) HO3.out (Below.refl _ _) hs3 (by omega) ?_; intro v5 w5 ho hb hg hat; clear hg hat; have HO5 := Aside0.mk ho; have HB5 := Aside0.mk hb; clear ho hb)
          have HI5 := Aside0.mk (HI3.out.low HB5.out HRW.out HOKW.out)
          have HF5 := Aside0.mk (HF3.out.low HB5.out)
          go_roundg (m - (kk + 1))
          case measure => omega
          case rel => exact ⟨kk + 1, xs ++ [x], _, _, by omega, by omega, by go_num, HXN, HFN, HO5, HI5, HF5⟩
        · have hltz : ¬ (kk : Int) < (m : Int) := by omega
          obtain rfl : kk = m := by omega
          have h := HFK.out
          rw [Nat.sub_self] at h
          have h2 := HRV.out
          rw [h] at h2
          subst h2
          clear HRV h HFK
          go_wp2_with fail
          go_returns
          exact ⟨_, rfl, HOk.out, HIk.out, HFr.out⟩

theorem rdVec_go (base : Nat) (ok : Nat → Prop) (r g : Nat) (bs : List Int) (pl : Nat) (sb rb : Bool) (w : World) (hI : IsRd w base ok r g bs pl sb rb) :
    Calls Try.prog 70 #[.pointer (some ⟨r, 0, none⟩)] w fun e w' => ∃ v0_ : Value, e = .returned v0_ ∧ Kd.R (Kd.int .i32) 21 w' w.heap.size (fun _ => True) v0_ (rdVec bs pl sb rb).1 ∧ IsRd w' base ok r g bs (rdVec bs pl sb rb).2.1 (rdVec bs pl sb rb).2.2.1 (rdVec bs pl sb rb).2.2.2 ∧ Fr (fun k => k = g ∨ k = r) w w' := by
  refine (rdVec_go0 base (fun k => ok k ∧ base ≤ k ∧ k < w.heap.size) r g bs pl sb rb w ⟨hI.1, fun h => hI.2.1 h.1, hI.2.2.1, hI.2.2.2.bound⟩ (fun k hk => hk.2.2)).mono ?_
  rintro e w' ⟨v, he, ho, hI', hf⟩
  exact ⟨v, he, ho, ⟨hI'.1, hI.2.1, hI'.2.2.1, hI'.2.2.2.mono (fun _ h => h.1)⟩, hf⟩

end Go.Proofs.Ytngjaaldidmgjaa.G
