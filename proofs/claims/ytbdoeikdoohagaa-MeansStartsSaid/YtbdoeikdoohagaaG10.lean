/- Contract of means.Same: slices.EqualFunc of rows, by vec.Same. -/
import Derived.Test.YtbdoeikdoohagaaG7
import Derived.Test.YtbdoeikdoohagaaV1
namespace Go.Proofs.Ytbdoeikdoohagaa.G
open Go.Shelf Go.RowKit Go.Proofs.YtbdoeikdoohagaaW.PrintWords Go.Proofs.YtbdoeikdoohagaaW.PrintLast Go.Proofs.YtbdoeikdoohagaaW.PrintMore
set_option linter.unusedVariables false
set_option linter.unusedSimpArgs false

def means_Same.f (a b : List (List Int)) : Option Bool := some (decide (a = b))
theorem rows_eq (a b : List (List Int)) (h : a.length = b.length) (hj : ∀ j, j < a.length → a.getD j [] = b.getD j []) : a = b := by
  refine List.ext_getElem h fun j h1 h2 => ?_
  have := hj j h1
  rwa [getD_of_lt a j [] h1, getD_of_lt b j [] h2] at this

set_option maxHeartbeats 2000000 in
set_option maxRecDepth 100000 in
theorem equalFunc (A : Option Addr) (c : Nat) (a : List (List Int)) (B : Option Addr) (d : Nat) (b : List (List Int)) (w : World) (hr : Kd.C kR w A a.length a) (hr' : Kd.C kR w B b.length b) :
    Calls Try.prog 68 #[.slice A a.length c, .slice B b.length d, .func (.func 21) #[] #[]] w fun e w' => e = .returned (.bool (decide (a = b))) ∧ Drawn0 w w' := by
  have eg : ∀ args w, (callFunc 21 args).run Try.prog w = .ok (.enter 21 args) w := enters_of Try.func21 (by kernel_rfl) rfl
  have HR := Aside0.mk hr
  have HR' := Aside0.mk hr'
  have hm := Kd.C_max hr
  have hm' := Kd.C_max hr'
  clear hr hr'
  by_cases hl : a.length = b.length
  case neg =>
    have e1 : ((a.length : Int) != (b.length : Int)) = true := by rw [bne_iff_ne]; omega
    have e2 : decide (a = b) = false := decide_eq_false (fun e => hl (by rw [e]))
    rw [e2]
    clear hl e2
    go_enter Try.func68, Try.ntmps68
    go_wp2_with fail
    go_returns
    exact ⟨rfl, Drawn0.refl _⟩
  case pos =>
    have e1 : ((a.length : Int) != (b.length : Int)) = false := by rw [bne_eq_false_iff_eq]; omega
    have HL := Aside0.mk hl
    obtain ⟨r, hrr⟩ : ∃ r, r = decide (a = b) := ⟨_, rfl⟩
    rw [← hrr]
    have HRR := Aside0.mk hrr
    clear hl hrr
    go_enter Try.func68, Try.ntmps68
    go_wp2_with fail
    go_loopg [17] a.length (fun gg s17 wr => ∃ kk : Nat, kk ≤ a.length ∧ a.length - kk ≤ gg ∧ s17 = .int .i64 kk ∧ Aside0 (Drawn0 w wr) ∧ Aside0 (∀ j, j < kk → a.getD j [] = b.getD j []))
    case atStart => exact ⟨0, Nat.zero_le _, by omega, rfl, ⟨Drawn0.refl _⟩, ⟨fun j hj => absurd hj (Nat.not_lt_zero _)⟩⟩
    case round =>
      obtain ⟨kk, hkk, hg, rfl, HD, HS⟩ := hrel
      by_cases hlt : kk < a.length
      · have hltz : (kk : Int) < (a.length : Int) := by omega
        have hltb : (kk : Int) < (b.length : Int) := by have := HL.out; omega
        obtain ⟨ad, A', c', hA, hcell, hlc, hC⟩ := C_row (Kd.C_below HR.out HD.out.below) kk hlt
        obtain ⟨bd, B', d', hB, hcell', hlc', hC'⟩ := C_row (Kd.C_below HR'.out HD.out.below) kk (by have := HL.out; omega)
        subst hA hB
        have hsame := P.vec_Same.calls ((a.getD kk []).length + 1) A' c' (a.getD kk []) B' d' (b.getD kk []) (decide (a.getD kk [] = b.getD kk [])) wr hC hlc hC' hlc' (same_is _ _ _ (by omega) (Kd.C_max hC))
        have hgood : a.getD kk [] = b.getD kk [] → ∀ j, j < kk + 1 → a.getD j [] = b.getD j [] := fun h j hj => by
          by_cases e : j = kk
          · rw [e]; exact h
          · exact HS.out j (by omega)
        have hbad : a.getD kk [] ≠ b.getD kk [] → r = false := fun h => by
          rw [HRR.out]
          exact decide_eq_false (fun e => h (by rw [e]))
        clear hC hC' hlc hlc'
        by_cases he : a.getD kk [] = b.getD kk []
        · rw [decide_eq_true he] at hsame
          have HS2 := Aside0.mk (hgood he)
          have HC := Aside0.mk hsame
          clear hsame hgood hbad he
          generalize (a.getD kk []).length = n1 at *
          generalize (b.getD kk []).length = n2 at *
          go_wp2_with (go_at_fn 21; refine HC.out.mono ?_; rintro e w' ⟨rfl, ⟨⟨q', rfl⟩⟩⟩)
          go_roundg (a.length - (kk + 1))
          case measure => omega
          case rel => exact ⟨kk + 1, hlt, by omega, by go_num, ⟨HD.out.step _⟩, HS2⟩
        · rw [decide_eq_false he] at hsame
          have HE := Aside0.mk (hbad he)
          have HC := Aside0.mk hsame
          clear hsame hgood hbad he
          generalize (a.getD kk []).length = n1 at *
          generalize (b.getD kk []).length = n2 at *
          go_wp2_with (go_at_fn 21; refine HC.out.mono ?_; rintro e w' ⟨rfl, ⟨⟨q', rfl⟩⟩⟩)
          go_returns
          exact ⟨by rw [HE.out]; rfl, HD.out.step _⟩
      · obtain rfl : kk = a.length := by omega
        have HE := Aside0.mk (show r = true by rw [HRR.out]; exact decide_eq_true (rows_eq a b HL.out HS.out))
        go_wp2_with fail
        go_returns
        exact ⟨by rw [HE.out]; rfl, HD.out⟩

set_option maxHeartbeats 1000000 in
set_option maxRecDepth 100000 in
theorem means_Same.calls (A : Option Addr) (c : Nat) (a : List (List Int)) (B : Option Addr) (d : Nat) (b : List (List Int)) (r : Bool) (w : World) (hr : Kd.C (Kd.slice 21 (Kd.int .i32)) w A a.length a) (hc : a.length ≤ c) (hr' : Kd.C (Kd.slice 21 (Kd.int .i32)) w B b.length b) (hc' : b.length ≤ d) (h : means_Same.f a b = some r) :
    Calls Try.prog 51 #[.slice A a.length c, .slice B b.length d] w fun e w' => e = .returned (.bool r) ∧ Drawn0 w w' := by
  have HE := Aside0.mk (equalFunc A c a B d b w hr hr')
  rw [Option.some.inj h] at HE
  clear hr hr' h hc hc'
  go_enter Try.func51, Try.ntmps51
  go_wp2_with fail
  refine HE.out.mono ?_
  rintro e w' ⟨rfl, hd⟩
  have HD := Aside0.mk hd
  clear hd
  go_wp2_with fail
  go_returns
  exact ⟨rfl, HD.out⟩

end Go.Proofs.Ytbdoeikdoohagaa.G
