/- Contracts of vec.Check, and of slices.IndexFunc, slices.ContainsFunc over whole numbers, whatever the closure. -/
import Derived.Test.YtoblkjdiahoplaaProg
import Derived.Test.YtoblkjdiahoplaaF0
import Derived.Shelf.Abstract
import Derived.Deep.LoopGhost
import Derived.Deep.QuietTactic
import Derived.BigQuiet
import Derived.WalkKit
import Derived.Handy
import Derived.RegionTactic
import Derived.ChangeAlike
import Derived.WalkSpells
namespace Go.Proofs.Ytoblkjdiahoplaa.G
open Go.Shelf Go.RowKit Go.Proofs.YtoblkjdiahoplaaW.PrintWords Go.Proofs.YtoblkjdiahoplaaW.PrintLast Go.Proofs.YtoblkjdiahoplaaW.PrintMore
set_option linter.unusedVariables false
set_option linter.unusedSimpArgs false

theorem first_drew (w : World) (a b : Nat) : (w.drewN a).drewN b = w.drewN (a + b) := World.drewN_drewN w a b

set_option maxHeartbeats 1000000 in
set_option maxRecDepth 100000 in
theorem idx_i32 (A : Option Addr) (n c : Nat) (K : Nat) (lb : Array Value) (p : Nat → Bool) (val : Nat → Value) (w : World) (hA : 0 < n → ∃ ad, A = some ad ∧ ∀ j, j < n → w.cell? (ad.add j) = some (val j)) (hn : n ≤ 9223372036854775807)
    (eg : ∀ args w, (callFunc K args).run Try.prog w = .ok (.enter K args) w)
    (hp : ∀ j W, j < n → Drawn0 w W → Calls Try.prog K (#[val j] ++ lb) W fun e w' => e = .returned (.bool (p j)) ∧ Drawn0 W w') :
    Calls Try.prog 65 #[.slice A n c, .func (.func K) #[] lb] w fun e w' => e = .returned (.int .i64 (firstP p 0 n)) ∧ Drawn0 w w' := by
  have HA := Aside0.mk hA
  have HP := Aside0.mk hp
  clear hA hp
  go_enter Try.func65, Try.ntmps65
  go_wp2
  go_loopg [5, 8] n (fun gg _ s8 wr => ∃ kk q : Nat, kk ≤ n ∧ n - kk ≤ gg ∧ s8 = .int .i64 kk ∧ wr = w.drewN q ∧ Aside0 (firstP p 0 n = firstP p kk (n - kk)))
  case atStart => exact ⟨0, 0, Nat.zero_le _, by omega, rfl, rfl, ⟨rfl⟩⟩
  case round =>
    obtain ⟨kk, q, hkk, hg, rfl, rfl, HF⟩ := hrel
    by_cases hlt : kk < n
    · have hltz : (kk : Int) < (n : Int) := by omega
      obtain ⟨ad, hA, hc⟩ := HA.out (by omega)
      subst hA
      have hcell := hc kk hlt
      clear hc
      have hcall := fun W h => HP.out kk W hlt h
      generalize val kk = y at hcell hcall
      cases hq : p kk with
      | true =>
        rw [hq] at hcall
        have HC := Aside0.mk hcall
        have HQ := Aside0.mk hq
        clear hcall hq
        go_wp2_with (go_at_fn K; refine (HC.out _ ?_).mono ?_; (first | exact ⟨⟨_, rfl⟩⟩ | exact ⟨⟨_, (World.drewN_drewN _ _ _)⟩⟩); rintro e w' ⟨rfl, ⟨⟨q', rfl⟩⟩⟩)
        go_ret
        refine ⟨?_, ⟨⟨_, rfl⟩⟩⟩
        rw [HF.out, firstP_hit HQ.out (by omega)]
        rfl
      | false =>
        rw [hq] at hcall
        have HC := Aside0.mk hcall
        have HQ := Aside0.mk hq
        clear hcall hq
        go_wp2_with (go_at_fn K; refine (HC.out _ ?_).mono ?_; (first | exact ⟨⟨_, rfl⟩⟩ | exact ⟨⟨_, (World.drewN_drewN _ _ _)⟩⟩); rintro e w' ⟨rfl, ⟨⟨q', rfl⟩⟩⟩)
        go_roundg (n - (kk + 1))
        case measure => omega
        case rel => exact ⟨kk + 1, _, by omega, by omega, by go_num, rfl, ⟨by rw [HF.out, firstP_miss HQ.out (by omega), show n - kk - 1 = n - (kk + 1) by omega]⟩⟩
    · have hltz : ¬ (kk : Int) < (n : Int) := by omega
      obtain rfl : kk = n := by omega
      go_wp2
      go_ret
      refine ⟨?_, ⟨⟨q, rfl⟩⟩⟩
      rw [HF.out, Nat.sub_self]
      rfl


set_option maxHeartbeats 1000000 in
set_option maxRecDepth 100000 in
theorem con_i32 (A : Option Addr) (n c : Nat) (K : Nat) (lb : Array Value) (p : Nat → Bool) (val : Nat → Value) (w : World) (hA : 0 < n → ∃ ad, A = some ad ∧ ∀ j, j < n → w.cell? (ad.add j) = some (val j)) (hn : n ≤ 9223372036854775807)
    (eg : ∀ args w, (callFunc K args).run Try.prog w = .ok (.enter K args) w)
    (hp : ∀ j W, j < n → Drawn0 w W → Calls Try.prog K (#[val j] ++ lb) W fun e w' => e = .returned (.bool (p j)) ∧ Drawn0 W w') :
    Calls Try.prog 59 #[.slice A n c, .func (.func K) #[] lb] w fun e w' => e = .returned (.bool ((List.range' 0 n).any p)) ∧ Drawn0 w w' := by
  have HI := Aside0.mk (idx_i32 A n c K lb p val w hA hn eg hp)
  have HE := Aside0.mk (firstP_nonneg p n 0)
  clear hA hp
  go_enter Try.func59, Try.ntmps59
  go_wp2_with fail
  refine HI.out.mono ?_
  generalize firstP p 0 n = x at HE
  rintro e w' ⟨rfl, hd⟩
  have HD := Aside0.mk hd
  clear hd
  go_wp2_with fail
  go_returns
  exact ⟨by rw [← HE.out]; rfl, HD.out⟩


theorem C_byte' {w : World} {A : Option Addr} {l : List Int} {k : IntKind} (h : Kd.C (Kd.int k) w A l.length l) (j : Nat) (hj : j < l.length) : ∃ ad, A = some ad ∧ w.cell? (ad.add j) = some (.int k (l.getD j 0)) := by
  obtain ⟨ad, e, hc⟩ := Kd.at_int h j (by omega) (by omega)
  exact ⟨ad, e, by simpa [rd] using hc⟩
def okC (x : Int) : Bool := decide (-1073741823 ≤ x ∧ x ≤ 1073741823)
def right (l : List Int) : Bool := decide (1 ≤ l.length ∧ l.length ≤ 4) && l.all okC
def checkV (l : List Int) : Int := if right l = true then 0 else 150
def vec_Check.f (l : List Int) : Option Int := some (checkV l)

theorem bad1 (x : Int) (w : World) : Calls Try.prog 58 #[.int .i32 x] w fun e w' => e = .returned (.bool (!okC x)) ∧ Drawn0 w w' := by
  by_cases h1 : x < -1073741823
  · have hs : okC x = false := by simp [okC]; omega
    have e1 : decide (x < (-1073741823 : Int)) = true := decide_eq_true h1
    rw [hs]
    clear hs
    go_enter Try.func58, Try.ntmps58
    go_wp2_with fail
    go_returns
    exact ⟨rfl, Drawn0.refl _⟩
  · by_cases h2 : 1073741823 < x
    · have hs : okC x = false := by simp [okC]; omega
      have e1 : decide (x < (-1073741823 : Int)) = false := decide_eq_false h1
      have e2 : decide ((1073741823 : Int) < x) = true := decide_eq_true h2
      rw [hs]
      clear hs
      go_enter Try.func58, Try.ntmps58
      go_wp2_with fail
      go_returns
      exact ⟨rfl, Drawn0.refl _⟩
    · have hs : okC x = true := by simp [okC]; omega
      have e1 : decide (x < (-1073741823 : Int)) = false := decide_eq_false h1
      have e2 : decide ((1073741823 : Int) < x) = false := decide_eq_false h2
      rw [hs]
      clear hs
      go_enter Try.func58, Try.ntmps58
      go_wp2_with fail
      go_returns
      exact ⟨rfl, Drawn0.refl _⟩

theorem con_bad (A : Option Addr) (c : Nat) (l : List Int) (w : World) (hr : Kd.C (Kd.int .i32) w A l.length l) :
    Calls Try.prog 59 #[.slice A l.length c, .func (.func 58) #[] #[]] w fun e w' => e = .returned (.bool (!l.all okC)) ∧ Drawn0 w w' := by
  have := con_i32 A l.length c 58 #[] (fun j => !okC (l.getD j 0)) (fun j => .int .i32 (l.getD j 0)) w (fun h => by
      obtain ⟨ad, hA, _⟩ := C_byte' hr 0 h
      exact ⟨ad, hA, fun j hj => by
        obtain ⟨ad', hA', hc⟩ := C_byte' hr j hj
        rw [hA] at hA'
        injection hA' with hA'
        subst hA'
        exact hc⟩) (Kd.C_max hr) (enters_of Try.func58 (by kernel_rfl) rfl) (fun j W hj hd => bad1 _ W)
  rw [any_at l (fun x => !okC x) 0] at this
  have e : (l.any fun x => !okC x) = !l.all okC := by rw [List.not_all_eq_any_not]
  rw [e] at this
  exact this

set_option maxHeartbeats 1000000 in
set_option maxRecDepth 100000 in
theorem vec_Check.calls (A : Option Addr) (c : Nat) (l : List Int) (r : Int) (w : World) (hr : Kd.C (Kd.int .i32) w A l.length l) (hc : l.length ≤ c) (h : vec_Check.f l = some r) :
    Calls Try.prog 41 #[.slice A l.length c] w fun e w' => e = .returned (.int .i64 r) ∧ Drawn0 w w' := by
  obtain rfl := Option.some.inj h
  clear h
  have HC := Aside0.mk (con_bad A c l w hr)
  have hm := Kd.C_max hr
  clear hr hc
  by_cases h1 : l.length < 1
  · have hs : checkV l = 150 := by unfold checkV right; rw [if_neg]; simp; omega
    have e1 : decide ((l.length : Int) < (1 : Int)) = true := decide_eq_true (by omega)
    rw [hs]
    clear hs
    go_enter Try.func41, Try.ntmps41
    go_wp2_with fail
    go_returns
    exact ⟨rfl, Drawn0.refl _⟩
  · have e1 : decide ((l.length : Int) < (1 : Int)) = false := decide_eq_false (by omega)
    by_cases h2 : 4 < l.length
    · have hs : checkV l = 150 := by unfold checkV right; rw [if_neg]; simp; omega
      have e2 : decide ((4 : Int) < (l.length : Int)) = true := decide_eq_true (by omega)
      rw [hs]
      clear hs
      go_enter Try.func41, Try.ntmps41
      go_wp2_with fail
      go_returns
      exact ⟨rfl, Drawn0.refl _⟩
    · have e2 : decide ((4 : Int) < (l.length : Int)) = false := decide_eq_false (by omega)
      have hs : checkV l = if l.all okC = true then 0 else 150 := by
        unfold checkV right
        rw [decide_eq_true (show 1 ≤ l.length ∧ l.length ≤ 4 from ⟨by omega, by omega⟩), Bool.true_and]
      rw [hs]
      clear hs
      generalize l.all okC = b at HC
      cases b with
      | true =>
        go_enter Try.func41, Try.ntmps41
        go_wp2_with fail
        refine HC.out.mono ?_
        rintro e w' ⟨rfl, hd⟩
        have HD := Aside0.mk hd
        clear hd
        go_wp2_with fail
        go_returns
        exact ⟨rfl, HD.out⟩
      | false =>
        go_enter Try.func41, Try.ntmps41
        go_wp2_with fail
        refine HC.out.mono ?_
        rintro e w' ⟨rfl, hd⟩
        have HD := Aside0.mk hd
        clear hd
        go_wp2_with fail
        go_returns
        exact ⟨rfl, HD.out⟩

end Go.Proofs.Ytoblkjdiahoplaa.G
