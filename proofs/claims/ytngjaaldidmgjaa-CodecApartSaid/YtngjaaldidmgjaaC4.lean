/- taken: what is read from bytes by a reader. -/
import Derived.Test.YtngjaaldidmgjaaC3
namespace Go.Proofs.Ytngjaaldidmgjaa.G
open Go.Shelf Go.RowKit Go.Proofs.YtngjaaldidmgjaaW.PrintWords Go.Proofs.YtngjaaldidmgjaaW.PrintLast Go.Proofs.YtngjaaldidmgjaaW.PrintMore
set_option linter.unusedVariables false
set_option linter.unusedSimpArgs false

def takeR (pl : Nat) (sb rb : Bool) (en : Int) : Int × Int := if rb = true then (0, 172) else if sb = true then (0, 7) else if en = 0 then ((pl : Int), 0) else (0, 172)

set_option maxHeartbeats 2000000 in
set_option maxRecDepth 100000 in
theorem taken_go (A : Option Addr) (c : Nat) (bs : List Int) (K : FuncId) (p : Value) (w : World) (en : Int) (pl : Nat) (sb rb : Bool) (X : World → Prop) (hr : Kd.C (Kd.int .u8) w A bs.length bs) (hc : bs.length ≤ c) (hl : bs.length < 140737488355328) (hby : ∀ x ∈ bs, 0 ≤ x ∧ x ≤ 255)
    (eg : ∀ (xs : Array Value) (W : World), Sem.run Try.prog (callFunc K xs) W = .ok (.enter K xs) W)
    (hX : ∀ w1 w2, X w1 → Below w1.heap.size w1 w2 → X w2)
    (H : ∀ (w1 : World) (r g : Nat), Below w.heap.size w w1 → IsRd w1 w.heap.size (fun k => w.heap.size ≤ k ∧ k < r) r g bs 0 false false →
      Calls Try.prog K #[.pointer (some ⟨r, 0, none⟩), p] w1 fun e w2 => e = .returned (.int .i64 en) ∧ IsRd w2 w.heap.size (fun k => w.heap.size ≤ k ∧ k < r) r g bs pl sb rb ∧ X w2) :
    Calls Try.prog 68 #[.slice A bs.length c, .func (.func K) #[] #[p]] w fun e w' => e = .returned (.tuple #[.int .i64 (takeR pl sb rb en).1, .int .i64 (takeR pl sb rb en).2]) ∧ X w' := by
  have HH := Aside0.mk H
  have HX := Aside0.mk hX
  have HRD := Aside0.mk (ScRead A c bs w hr hc hl hby)
  clear H hX hr hc hby
  obtain ⟨res, hres⟩ : ∃ res, res = takeR pl sb rb en := ⟨_, rfl⟩
  rw [← hres]
  have HRES := Aside0.mk hres
  clear hres
  go_enter Try.func68, Try.ntmps68
  go_wp2_with fail
  refine HRD.out.mono ?_
  rintro e w1 ⟨g, rfl, hI1, hb1⟩
  have HI1 := Aside0.mk hI1
  have HB1 := Aside0.mk hb1
  clear hI1 hb1 HRD
  go_upto_region 2 with (fail)
  obtain ⟨w2, hw2⟩ : ∃ w2, w2 = w1.alloc (.cells #[.pointer (some ⟨g, 0, none⟩), .bool false] 109) := ⟨_, rfl⟩
  have HB2 := Aside0.mk (show Below w.heap.size w w2 by rw [hw2]; exact below_alloc HB1.out _)
  obtain ⟨r, hrr⟩ : ∃ r, r = w1.heap.size := ⟨_, rfl⟩
  have HI2 := Aside0.mk (show IsRd w2 w.heap.size (fun k => w.heap.size ≤ k ∧ k < r) r g bs 0 false false by
    rw [hw2, hrr]
    exact ⟨heap_alloc_new w1 _, fun h => Nat.lt_irrefl _ h.2, fun e => by have := HI1.out.lt; omega, (HI1.out.bound.mono (fun k hk => hk.2)).step (fun k _ hk => Below.heap_alloc w1 _ k hk)⟩)
  rw [← hw2, ← hrr]
  have HCL := Aside0.mk (HH.out w2 r g HB2.out HI2.out)
  clear hw2 hrr HI1 HB1
  cases rb with
  | true =>
    go_wp2_with (go_at_fn K; refine HCL.out.mono ?_; rintro e w3 ⟨rfl, hI3, hX3⟩; have HI3 := Aside0.mk hI3; have HX3 := Aside0.mk hX3; have q0 : w3.cell? ⟨r, 0, none⟩ = some (.pointer (some ⟨g, 0, none⟩)) := (blk_cell hI3.1 0).trans rfl; have q1 : w3.cell? ⟨r, 1, none⟩ = some (.bool true) := (blk_cell hI3.1 1).trans rfl; clear hI3 hX3)
    go_returns
    have h := HRES.out
    unfold takeR at h
    rw [if_pos rfl] at h
    subst h
    exact ⟨rfl, HX3.out⟩
  | false =>
    go_wp2_with (go_at_fn K; refine HCL.out.mono ?_; rintro e w3 ⟨rfl, hI3, hX3⟩; have HI3 := Aside0.mk hI3; have HX3 := Aside0.mk hX3; have q0 : w3.cell? ⟨r, 0, none⟩ = some (.pointer (some ⟨g, 0, none⟩)) := (blk_cell hI3.1 0).trans rfl; have q1 : w3.cell? ⟨r, 1, none⟩ = some (.bool false) := (blk_cell hI3.1 1).trans rfl; clear hI3 hX3)
    refine (ScBadq _ _ g bs pl sb w3 HI3.out.2.2.2).mono ?_
    rintro e w4 ⟨rfl, hd4⟩
    have HX4 := Aside0.mk (HX.out _ _ HX3.out hd4.below)
    have HI4 := Aside0.mk (HI3.out.below hd4.below)
    have q0 : w4.cell? ⟨r, 0, none⟩ = some (.pointer (some ⟨g, 0, none⟩)) := (blk_cell HI4.out.1 0).trans rfl
    clear hd4 HX3 HI3 q1
    cases sb with
    | true =>
      go_wp2_with fail
      go_returns
      have h := HRES.out
      unfold takeR at h
      rw [if_neg (by decide), if_pos rfl] at h
      subst h
      exact ⟨rfl, HX4.out⟩
    | false =>
      by_cases hen : en = 0
      · subst hen
        go_wp2_with fail
        refine (ScPlace _ _ g bs pl false w4 HI4.out.2.2.2).mono ?_
        rintro e w5 ⟨rfl, hd5⟩
        have HX5 := Aside0.mk (HX.out _ _ HX4.out hd5.below)
        clear hd5
        go_wp2_with fail
        go_returns
        have h := HRES.out
        unfold takeR at h
        rw [if_neg (by decide), if_neg (by decide), if_pos rfl] at h
        subst h
        exact ⟨rfl, HX5.out⟩
      · have e1 : (en != 0) = true := by rw [bne_iff_ne]; exact hen
        have h := HRES.out
        unfold takeR at h
        rw [if_neg (by decide), if_neg (by decide), if_neg hen] at h
        subst h
        clear hen
        go_wp2_with fail
        go_returns
        exact ⟨rfl, HX4.out⟩

end Go.Proofs.Ytngjaaldidmgjaa.G
