/- Contract of vec.all: why vectors may not be together. -/
import Derived.Test.YtbdoeikdoohagaaG2
namespace Go.Proofs.Ytbdoeikdoohagaa.G
open Go.Shelf Go.RowKit Go.Proofs.YtbdoeikdoohagaaW.PrintWords Go.Proofs.YtbdoeikdoohagaaW.PrintLast Go.Proofs.YtbdoeikdoohagaaW.PrintMore
set_option linter.unusedVariables false
set_option linter.unusedSimpArgs false

/-- Vectors that are read. -/
abbrev kR : Kd (List Int) := Kd.slice 21 (Kd.int .i32)
theorem C_row {α : Type} {d : Kd α} {e : Nat} {w : World} {A : Option Addr} {l : List (List α)} (h : Kd.C (Kd.slice e d) w A l.length l) (j : Nat) (hj : j < l.length) :
    ∃ ad A' c', A = some ad ∧ w.cell? (ad.add j) = some (.slice A' (l.getD j []).length c') ∧ (l.getD j []).length ≤ c' ∧ Kd.C d w A' (l.getD j []).length (l.getD j []) := by
  obtain ⟨ad, cc, hA, _, hK, hcell⟩ := Kd.C_get h [] (j : Int) (by omega) (by omega)
  rw [Int.toNat_natCast] at hK hcell
  obtain ⟨A', c', hcs, hlc, hC⟩ := hK
  refine ⟨ad, A', c', hA, ?_, hlc, hC⟩
  have := hcell 0 _ (by rw [hcs]; rfl)
  rw [show (Kd.slice e d).sz = 1 from rfl] at this
  simpa using this
theorem add0 (ad : Addr) : ad.add 0 = ad := by
  obtain ⟨b, o, x⟩ := ad
  unfold Addr.add
  split <;> simp_all
def valAt (w : World) (A : Option Addr) (j : Nat) : Value := match A with | some ad => (w.cell? (ad.add j)).getD undef | none => undef
theorem valAt_is {w : World} {ad : Addr} {j : Nat} {v : Value} (h : w.cell? (ad.add j) = some v) : valAt w (some ad) j = v := by
  show (w.cell? (ad.add j)).getD undef = v
  rw [h]; rfl
theorem C_vals {α : Type} {d : Kd α} {e : Nat} {w : World} {A : Option Addr} {l : List (List α)} (h : Kd.C (Kd.slice e d) w A l.length l) : 0 < l.length → ∃ ad, A = some ad ∧ ∀ j, j < l.length → w.cell? (ad.add j) = some (valAt w A j) := by
  intro h0
  obtain ⟨ad, _, _, rfl, _⟩ := C_row h 0 h0
  refine ⟨ad, rfl, fun j hj => ?_⟩
  obtain ⟨ad', A', c', e, hc, _⟩ := C_row h j hj
  injection e with e
  subst e
  rw [valAt_is hc]; exact hc

set_option maxHeartbeats 1000000 in
set_option maxRecDepth 100000 in
theorem idx_rows (A : Option Addr) (n c : Nat) (K : Nat) (lb : Array Value) (p : Nat → Bool) (val : Nat → Value) (w : World) (hA : 0 < n → ∃ ad, A = some ad ∧ ∀ j, j < n → w.cell? (ad.add j) = some (val j)) (hn : n ≤ 9223372036854775807)
    (eg : ∀ args w, (callFunc K args).run Try.prog w = .ok (.enter K args) w)
    (hp : ∀ j W, j < n → Drawn0 w W → Calls Try.prog K (#[val j] ++ lb) W fun e w' => e = .returned (.bool (p j)) ∧ Drawn0 W w') :
    Calls Try.prog 76 #[.slice A n c, .func (.func K) #[] lb] w fun e w' => e = .returned (.int .i64 (firstP p 0 n)) ∧ Drawn0 w w' := by
  have HA := Aside0.mk hA
  have HP := Aside0.mk hp
  clear hA hp
  go_enter Try.func76, Try.ntmps76
  go_wp2
  go_loopg [5, 8] n (fun gg _ s8 wr => ∃ kk q : Nat, kk ≤ n ∧ n - kk ≤ gg ∧ s8 = .int .i64 kk ∧ wr = w.drewN q ∧ Aside0 (firstP p 0 n = firstP p kk (n - kk)))
  case atStart => exact ⟨0, 0, Nat.zero_le _, by omega, rfl, rfl, ⟨rfl⟩⟩
  case round =>
    obtain ⟨kk, q, hkk, hg, rfl, rfl, HF⟩ := hrel
    by_cases hlt : kk < n
    · have hltz : (kk : Int) < (n : Int) := by omega
      obtain ⟨ad, hA, hc⟩ := HA.out (by omega)
      subst hA
      have hcell := hc kk hlt
      clear hc
      have hcall := fun W h => HP.out kk W hlt h
      generalize val kk = y at hcell hcall
      cases hq : p kk with
      | true =>
        rw [hq] at hcall
        have HC := Aside0.mk hcall
        have HQ := Aside0.mk hq
        clear hcall hq
        go_wp2_with (go_at_fn K; refine (HC.out _ ?_).mono ?_; (first | exact ⟨⟨_, rfl⟩⟩ | exact ⟨⟨_, (World.drewN_drewN _ _ _)⟩⟩); rintro e w' ⟨rfl, ⟨⟨q', rfl⟩⟩⟩)
        go_ret
        refine ⟨?_, ⟨⟨_, rfl⟩⟩⟩
        rw [HF.out, firstP_hit HQ.out (by omega)]
        rfl
      | false =>
        rw [hq] at hcall
        have HC := Aside0.mk hcall
        have HQ := Aside0.mk hq
        clear hcall hq
        go_wp2_with (go_at_fn K; refine (HC.out _ ?_).mono ?_; (first | exact ⟨⟨_, rfl⟩⟩ | exact ⟨⟨_, (World.drewN_drewN _ _ _)⟩⟩); rintro e w' ⟨rfl, ⟨⟨q', rfl⟩⟩⟩)
        go_roundg (n - (kk + 1))
        case measure => omega
        case rel => exact ⟨kk + 1, _, by omega, by omega, by go_num, rfl, ⟨by rw [HF.out, firstP_miss HQ.out (by omega), show n - kk - 1 = n - (kk + 1) by omega]⟩⟩
    · have hltz : ¬ (kk : Int) < (n : Int) := by omega
      obtain rfl : kk = n := by omega
      go_wp2
      go_ret
      refine ⟨?_, ⟨⟨q, rfl⟩⟩⟩
      rw [HF.out, Nat.sub_self]
      rfl


set_option maxHeartbeats 1000000 in
set_option maxRecDepth 100000 in
theorem con_rows (A : Option Addr) (n c : Nat) (K : Nat) (lb : Array Value) (p : Nat → Bool) (val : Nat → Value) (w : World) (hA : 0 < n → ∃ ad, A = some ad ∧ ∀ j, j < n → w.cell? (ad.add j) = some (val j)) (hn : n ≤ 9223372036854775807)
    (eg : ∀ args w, (callFunc K args).run Try.prog w = .ok (.enter K args) w)
    (hp : ∀ j W, j < n → Drawn0 w W → Calls Try.prog K (#[val j] ++ lb) W fun e w' => e = .returned (.bool (p j)) ∧ Drawn0 W w') :
    Calls Try.prog 70 #[.slice A n c, .func (.func K) #[] lb] w fun e w' => e = .returned (.bool ((List.range' 0 n).any p)) ∧ Drawn0 w w' := by
  have HI := Aside0.mk (idx_rows A n c K lb p val w hA hn eg hp)
  have HE := Aside0.mk (firstP_nonneg p n 0)
  clear hA hp
  go_enter Try.func70, Try.ntmps70
  go_wp2_with fail
  refine HI.out.mono ?_
  generalize firstP p 0 n = x at HE
  rintro e w' ⟨rfl, hd⟩
  have HD := Aside0.mk hd
  clear hd
  go_wp2_with fail
  go_returns
  exact ⟨by rw [← HE.out]; rfl, HD.out⟩


def sameLens (l : List (List Int)) : Bool := l.all fun v => decide (v.length = (l.getD 0 []).length)
def allErr (l : List (List Int)) : Int := if l.all right = true then (if sameLens l = true then 0 else 151) else 150
def vec_all.f (l : List (List Int)) : Option Int := some (allErr l)

set_option maxHeartbeats 1000000 in
set_option maxRecDepth 100000 in
theorem other1 (A : Option Addr) (c : Nat) (l : List (List Int)) (B : Nat) (A' : Option Addr) (n' c' : Nat) (w : World) (hr : Kd.C kR w A l.length l) (h0 : 0 < l.length) (hn : n' ≤ 9223372036854775807)
    (hB : w.heap[B]? = some (.cells #[.slice A l.length c] 22 (0, 0))) :
    Calls Try.prog 69 #[.slice A' n' c', .pointer (some ⟨B, 0, none⟩)] w fun e w' => e = .returned (.bool (!decide (n' = (l.getD 0 []).length))) ∧ Drawn0 w w' := by
  have q1 : w.cell? ⟨B, 0, none⟩ = some (.slice A l.length c) := (blk_cell hB 0).trans rfl
  obtain ⟨ad, A0, c0, rfl, q2, _, hC⟩ := C_row hr 0 h0
  rw [add0] at q2
  have hm := Kd.C_max hr
  have hm2 := Kd.C_max hC
  generalize (l.getD 0 []).length = m at *
  have i1 : (0 : Int) < (l.length : Int) := by omega
  clear hr hB hC
  by_cases he : n' = m
  · have e1 : ((n' : Int) != (m : Int)) = false := by rw [bne_eq_false_iff_eq]; omega
    have e2 : (!decide (n' = m)) = false := by rw [decide_eq_true he]; rfl
    rw [e2]
    clear he e2
    go_enter Try.func69, Try.ntmps69
    go_wp2_with fail
    all_goals (try (go_quiet (fail); go_wp2_with fail))
    go_returns
    first | exact ⟨rfl, Drawn0.refl _⟩ | exact ⟨rfl, ⟨⟨_, rfl⟩⟩⟩
  · have e1 : ((n' : Int) != (m : Int)) = true := by rw [bne_iff_ne]; omega
    have e2 : (!decide (n' = m)) = true := by rw [decide_eq_false he]; rfl
    rw [e2]
    clear he e2
    go_enter Try.func69, Try.ntmps69
    go_wp2_with fail
    all_goals (try (go_quiet (fail); go_wp2_with fail))
    go_returns
    first | exact ⟨rfl, Drawn0.refl _⟩ | exact ⟨rfl, ⟨⟨_, rfl⟩⟩⟩

theorem con_other (A : Option Addr) (c : Nat) (l : List (List Int)) (B : Nat) (w : World) (hr : Kd.C kR w A l.length l)
    (hB : w.heap[B]? = some (.cells #[.slice A l.length c] 22 (0, 0))) :
    Calls Try.prog 70 #[.slice A l.length c, .func (.func 69) #[] #[.pointer (some ⟨B, 0, none⟩)]] w fun e w' => e = .returned (.bool (!sameLens l)) ∧ Drawn0 w w' := by
  have := con_rows A l.length c 69 #[.pointer (some ⟨B, 0, none⟩)] (fun j => !decide ((l.getD j []).length = (l.getD 0 []).length)) (valAt w A) w (C_vals hr) (Kd.C_max hr) (enters_of Try.func69 (by kernel_rfl) rfl) (fun j W hj hd => by
    obtain ⟨ad, A', c', e, hc, _, hC⟩ := C_row hr j hj
    have hm := Kd.C_max hC
    subst e
    rw [valAt_is hc]
    exact other1 (some ad) c l B A' _ c' W (Kd.C_below hr hd.below) (by omega) hm (blk_below hB hd.below))
  rw [any_at l (fun v => !decide (v.length = (l.getD 0 []).length)) []] at this
  have e : (l.any fun v => !decide (v.length = (l.getD 0 []).length)) = !sameLens l := by unfold sameLens; rw [List.not_all_eq_any_not]
  rw [e] at this
  exact this

theorem all_right (l : List (List Int)) (h : ∀ j, j < l.length → right (l.getD j []) = true) : l.all right = true := by
  rw [List.all_eq_true]
  intro x hx
  obtain ⟨j, hj, rfl⟩ := List.getElem_of_mem hx
  have := h j hj
  simpa [List.getD, hj] using this
theorem not_right (l : List (List Int)) (j : Nat) (hj : j < l.length) (h : right (l.getD j []) = false) : l.all right = false := by
  rw [List.all_eq_false]
  exact ⟨l[j], List.getElem_mem hj, by simpa [List.getD, hj] using h⟩

set_option maxHeartbeats 1000000 in
set_option maxRecDepth 100000 in
theorem vec_all.calls (A : Option Addr) (c : Nat) (l : List (List Int)) (r : Int) (w : World) (hr : Kd.C (Kd.slice 21 (Kd.int .i32)) w A l.length l) (hc : l.length ≤ c) (h : vec_all.f l = some r) :
    Calls Try.prog 53 #[.slice A l.length c] w fun e w' => e = .returned (.int .i64 r) ∧ Below w.heap.size w w' := by
  obtain rfl := Option.some.inj h
  clear h
  have HC := Aside0.mk (fun (W : World) (hb : Below w.heap.size w W) (B : Nat) (hB : W.heap[B]? = some (.cells #[.slice A l.length c] 22 (0, 0))) => con_other A c l B W (Kd.C_below hr hb) hB)
  have HN := Aside0.mk (heap_alloc_new w (.cells #[.slice A l.length c] 22))
  have HB := Aside0.mk (below_alloc (Below.refl w.heap.size w) (.cells #[.slice A l.length c] 22))
  have hm := Kd.C_max hr
  have HR := Aside0.mk hr
  clear hr hc
  go_enter Try.func53, Try.ntmps53
  go_wp2_with fail
  go_loopg [9] l.length (fun gg s9 wr => ∃ kk : Nat, kk ≤ l.length ∧ l.length - kk ≤ gg ∧ s9 = .int .i64 kk ∧ Aside0 (Drawn0 (w.alloc (.cells #[.slice A l.length c] 22)) wr) ∧ Aside0 (∀ j, j < kk → right (l.getD j []) = true))
  case atStart => exact ⟨0, Nat.zero_le _, by omega, rfl, ⟨Drawn0.refl _⟩, ⟨fun j hj => absurd hj (Nat.not_lt_zero _)⟩⟩
  case round =>
    obtain ⟨kk, hkk, hg, rfl, HD, HT⟩ := hrel
    by_cases hlt : kk < l.length
    · have hltz : (kk : Int) < (l.length : Int) := by omega
      have hrw := Kd.C_below HR.out (HB.out.trans (HD.out.below.mono (by simp)))
      obtain ⟨ad, A', c', hA, hcell, hlc, hC⟩ := C_row hrw kk hlt
      have hck := vec_Check.calls A' c' (l.getD kk []) (checkV (l.getD kk [])) wr hC hlc rfl
      have hst : right (l.getD kk []) = false → allErr l = 150 := fun h => by unfold allErr; rw [not_right l kk hlt h]; rfl
      have hex : right (l.getD kk []) = true → ∀ j, j < kk + 1 → right (l.getD j []) = true := fun h j hj => by
        by_cases e : j = kk
        · rw [e]; exact h
        · exact HT.out j (by omega)
      subst hA
      clear hrw hC hlc
      generalize (l.getD kk []).length = n' at hck hcell
      unfold checkV at hck
      cases hq : right (l.getD kk []) with
      | true =>
        rw [hq, if_pos rfl] at hck
        have HK := Aside0.mk hck
        have HE := Aside0.mk (hex hq)
        clear hck hex hst hq
        go_wp2_with fail
        refine HK.out.mono ?_
        rintro e w' ⟨rfl, hd⟩
        have HD2 := Aside0.mk (Drawn0.trans2 HD.out hd)
        clear hd
        go_wp2_with fail
        go_roundg (l.length - (kk + 1))
        case measure => omega
        case rel => exact ⟨kk + 1, hlt, by omega, by go_num, HD2, HE⟩
      | false =>
        rw [hq, if_neg (by decide)] at hck
        have HK := Aside0.mk hck
        have HE := Aside0.mk (hst hq)
        clear hck hex hst hq
        go_wp2_with fail
        refine HK.out.mono ?_
        rintro e w' ⟨rfl, hd⟩
        have HD2 := Aside0.mk (Drawn0.trans2 HD.out hd)
        clear hd
        go_wp2_with fail
        go_returns
        exact ⟨by rw [HE.out]; rfl, HB.out.trans (HD2.out.below.mono (by simp))⟩
    · obtain rfl : kk = l.length := by omega
      have hw2 : wr.heap[w.heap.size]? = some (.cells #[.slice A l.length c] 22 (0, 0)) := blk_below HN.out HD.out.below
      have q1 : wr.cell? ⟨w.heap.size, 0, none⟩ = some (.slice A l.length c) := (blk_cell hw2 0).trans rfl
      have hcon := HC.out wr (HB.out.trans (HD.out.below.mono (by simp))) w.heap.size hw2
      have hres : allErr l = if sameLens l = true then 0 else 151 := by unfold allErr; rw [if_pos (all_right l HT.out)]
      generalize sameLens l = b at hcon hres
      clear hw2
      cases b with
      | true =>
        rw [if_pos rfl] at hres
        have HK := Aside0.mk hcon
        have HE := Aside0.mk hres
        clear hcon hres
        go_wp2_with fail
        refine HK.out.mono ?_
        rintro e w' ⟨rfl, hd⟩
        have HD2 := Aside0.mk (Drawn0.trans2 HD.out hd)
        clear hd
        go_wp2_with fail
        go_returns
        exact ⟨by rw [HE.out]; rfl, HB.out.trans (HD2.out.below.mono (by simp))⟩
      | false =>
        rw [if_neg (by decide)] at hres
        have HK := Aside0.mk hcon
        have HE := Aside0.mk hres
        clear hcon hres
        go_wp2_with fail
        refine HK.out.mono ?_
        rintro e w' ⟨rfl, hd⟩
        have HD2 := Aside0.mk (Drawn0.trans2 HD.out hd)
        clear hd
        go_wp2_with fail
        go_returns
        exact ⟨by rw [HE.out]; rfl, HB.out.trans (HD2.out.below.mono (by simp))⟩

end Go.Proofs.Ytbdoeikdoohagaa.G
