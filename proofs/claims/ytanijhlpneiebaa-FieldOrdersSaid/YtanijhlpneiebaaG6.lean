/- Contract of bytes.Compare (internal/bytealg.Compare is a function of the model's own). -/
import Derived.Test.YtanijhlpneiebaaG7
import Derived.Lib.BytesEntry
import Derived.Laws.Externs
import GoSem.Extern.BytealgCompare
namespace Go.Proofs.Ytanijhlpneiebaa.G
open Go.RowKit Go.Proofs.YtanijhlpneiebaaW.PrintWords Go.Proofs.YtanijhlpneiebaaW.PrintLast Go.Proofs.YtanijhlpneiebaaW.PrintMore
set_option linter.unusedVariables false
set_option linter.unusedSimpArgs false

/-- Which of two rows stands ahead. -/
def cmpL : List Int → List Int → Int
  | [], [] => 0
  | [], _ :: _ => -1
  | _ :: _, [] => 1
  | x :: l, y :: m => if x < y then -1 else if y < x then 1 else cmpL l m

def cmpAt (l m : List UInt8) : Int :=
  match (List.range (min l.length m.length)).find? fun i => l[i]! != m[i]! with
  | some i => if l[i]! < m[i]! then -1 else 1
  | none => if l.length < m.length then -1 else if l.length > m.length then 1 else 0
theorem cmp_at (l m : List UInt8) : Extern.BytealgCompare.cmp ⟨l.toArray⟩ ⟨m.toArray⟩ = cmpAt l m := by
  have e : ∀ (l : List UInt8) (i : Nat), (⟨l.toArray⟩ : ByteArray)[i]! = l[i]! := by
    intro l i
    by_cases h : i < l.length
    · rw [getElem!_pos _ i (by simpa [ByteArray.size] using h), getElem!_pos l i h]; rfl
    · rw [getElem!_neg _ i (by simpa [ByteArray.size] using h), getElem!_neg l i h]
  unfold Extern.BytealgCompare.cmp cmpAt
  simp only [e, ByteArray.size, List.size_toArray]
  generalize List.find? (fun i => l[i]! != m[i]!) (List.range (min l.length m.length)) = q
  cases q <;> rfl
theorem cmpAt_cons (x y : UInt8) (l m : List UInt8) : cmpAt (x :: l) (y :: m) = if x < y then -1 else if y < x then 1 else cmpAt l m := by
  unfold cmpAt
  have hr : List.range (min (x :: l).length (y :: m).length) = 0 :: (List.range (min l.length m.length)).map Nat.succ := by
    rw [← List.range_succ_eq_map]; congr 1; simp only [List.length_cons]; omega
  rw [hr, List.find?_cons, List.find?_map]
  by_cases h : x = y
  · subst h
    have h1 : ¬ x < x := UInt8.lt_irrefl x
    simp only [h1, if_false]
    have e0 : ((x :: l)[0]! != (x :: m)[0]!) = false := by simp
    rw [e0]
    have e1 : (fun i => (x :: l)[i]! != (x :: m)[i]!) ∘ Nat.succ = fun i => l[i]! != m[i]! := by
      funext i
      simp
    simp only [e1]
    cases List.find? (fun i => l[i]! != m[i]!) (List.range (min l.length m.length)) with
    | none => simp
    | some i => simp
  · have e0 : ((x :: l)[0]! != (y :: m)[0]!) = true := by simpa using h
    rw [e0]
    simp only [List.getElem!_cons_zero]
    by_cases h1 : x < y
    · rw [if_pos h1, if_pos h1]
    · have h2 : y < x := by
        rcases UInt8.lt_or_lt_of_ne h with h2 | h2
        · exact absurd h2 h1
        · exact h2
      rw [if_neg h1, if_neg h1, if_pos h2]
theorem cmpAt_is : ∀ (xs ys : List Int), (∀ x ∈ xs, 0 ≤ x ∧ x ≤ 255) → (∀ x ∈ ys, 0 ≤ x ∧ x ≤ 255) → cmpAt (Lib.bytesOf xs) (Lib.bytesOf ys) = cmpL xs ys
  | [], [], _, _ => rfl
  | [], y :: ys, _, _ => by simp [cmpAt, Lib.bytesOf, cmpL]
  | x :: xs, [], _, _ => by simp [cmpAt, Lib.bytesOf, cmpL]
  | x :: xs, y :: ys, hx, hy => by
    have h1 := hx x (by simp)
    have h2 := hy y (by simp)
    have ih := cmpAt_is xs ys (fun z hz => hx z (by simp [hz])) (fun z hz => hy z (by simp [hz]))
    have e : ∀ (z : Int) (zs : List Int), Lib.bytesOf (z :: zs) = z.toNat.toUInt8 :: Lib.bytesOf zs := fun _ _ => rfl
    have lt : ∀ a b : Int, 0 ≤ a → a ≤ 255 → 0 ≤ b → b ≤ 255 → (a.toNat.toUInt8 < b.toNat.toUInt8 ↔ a < b) := by
      intro a b ha ha2 hb hb2
      rw [UInt8.lt_iff_toNat_lt, UInt8.toNat_ofNat', UInt8.toNat_ofNat']
      omega
    rw [e, e, cmpAt_cons, cmpL, ih]
    simp only [lt x y h1.1 h1.2 h2.1 h2.2, lt y x h2.1 h2.2 h1.1 h1.2]

def bytes_Compare.f (l m : List Int) : Option Int := if bytesOk l = true ∧ bytesOk m = true then some (cmpL l m) else none

theorem loadsB (A : Option Addr) (c : Nat) (l : List Int) (w : World) (h : Kd.C (Kd.int .u8) w A l.length l) : (Extern.Bytes.bytesOf (.slice A l.length c)).run Try.prog w = .ok ⟨(Lib.bytesOf l).toArray⟩ w := by
  cases A with
  | none =>
    have hl : l = [] := by
      rcases Nat.eq_zero_or_pos l.length with h0 | h0
      · exact List.length_eq_zero_iff.1 h0
      · obtain ⟨ad, e, _⟩ := h.2.2 h0
        cases e
    subst hl
    rfl
  | some ad =>
    have hc : ∀ j x, l[j]? = some x → w.cell? (ad.add j) = some (.int .u8 x) := by
      intro j x hj
      have hlt : j < l.length := (List.getElem?_eq_some_iff.1 hj).1
      obtain ⟨ad', cc, e, _, hK, hcell⟩ := Kd.C_get h (0 : Int) (j : Int) (by omega) (by omega)
      cases e
      have hx : l.getD (j : Int).toNat 0 = x := by simp [List.getD, hj]
      have hcc : cc = [.int .u8 (l.getD (j : Int).toNat 0)] := hK
      rw [hx] at hcc
      have := hcell 0 (.int .u8 x) (by rw [hcc]; rfl)
      rw [Int.toNat_natCast, show (Kd.int IntKind.u8).sz = 1 from rfl] at this
      simpa using this
    have := Lib.run_loadBytesX (P := Try.prog) w l ad .empty hc
    show (Extern.Bytes.loadBytes ad l.length .empty).run _ w = _
    rw [this]
    simp

set_option maxRecDepth 100000 in
theorem bytes_Compare.calls (A0 : Option Addr) (c0 : Nat) (l0 : List Int) (A1 : Option Addr) (c1 : Nat) (l1 : List Int) (r : Int) (w : World) (hr0 : Kd.C (Kd.int .u8) w A0 l0.length l0) (hc0 : l0.length ≤ c0) (hr1 : Kd.C (Kd.int .u8) w A1 l1.length l1) (hc1 : l1.length ≤ c1) (h : bytes_Compare.f l0 l1 = some r) :
    Calls Try.prog 52 #[.slice A0 l0.length c0, .slice A1 l1.length c1] w fun e w' => e = .returned (.int .i64 r) ∧ Drawn0 w w' := by
  unfold bytes_Compare.f at h
  split at h
  case isFalse => cases h
  case isTrue hb =>
  obtain rfl := Option.some.inj h
  have hcall : ∀ w' : World, Kd.C (Kd.int .u8) w' A0 l0.length l0 → Kd.C (Kd.int .u8) w' A1 l1.length l1 → (callFunc 67 #[.slice A0 l0.length c0, .slice A1 l1.length c1]).run Try.prog w' = .ok (.value (.int .i64 (cmpL l0 l1))) w' := by
    intro w' h0 h1
    rw [run_callFunc_extern (e := Extern.BytealgCompare.compare) Try.func67 (by kernel_rfl) (by kernel_rfl) (by kernel_rfl) (by kernel_rfl)]
    have e : (Extern.BytealgCompare.compare #[.slice A0 l0.length c0, .slice A1 l1.length c1]).run Try.prog w' = .ok (goInt (Extern.BytealgCompare.cmp ⟨(Lib.bytesOf l0).toArray⟩ ⟨(Lib.bytesOf l1).toArray⟩)) w' := by
      change Sem.run _ (do pure (goInt (Extern.BytealgCompare.cmp (← Extern.Bytes.bytesOf (.slice A0 l0.length c0)) (← Extern.Bytes.bytesOf (.slice A1 l1.length c1))))) w' = _
      simp only [Sem.run_bind, Sem.run_pure, loadsB A0 c0 l0 w' h0, loadsB A1 c1 l1 w' h1, Result.andThen]
    rw [e, cmp_at, cmpAt_is _ _ ((bytesOk_iff l0).1 hb.1) ((bytesOk_iff l1).1 hb.2)]
    rfl
  have HC := hcall w hr0 hr1
  clear hcall hr0 hr1 hb h
  go_enter Try.func52, Try.ntmps52
  go_wp2_with fail
  go_returns
  exact ⟨rfl, ⟨⟨0, rfl⟩⟩⟩

end Go.Proofs.Ytanijhlpneiebaa.G
