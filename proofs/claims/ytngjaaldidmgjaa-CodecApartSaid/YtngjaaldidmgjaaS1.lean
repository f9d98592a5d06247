/- What field's printed functions come to: Put, Lay, Fits, FitsInt, and the document's, in plain lists and numbers. -/
import Derived.Test.YtngjaaldidmgjaaG5
import Derived.Test.YtngjaaldidmgjaaV1
namespace Go.Proofs.Ytngjaaldidmgjaa.G
open Go.RowKit Go.Proofs.YtngjaaldidmgjaaW.PrintWords Go.Proofs.YtngjaaldidmgjaaW.PrintLast Go.Proofs.YtngjaaldidmgjaaW.PrintMore
set_option linter.unusedVariables false
set_option linter.unusedSimpArgs false

/-- Byte j of a field of s bytes. -/
def byteAt (s : Nat) (x : Int) (j : Nat) : Int := x / 2 ^ (8 * (s - 1 - j)) % 256
def putFrom (s : Nat) (x : Int) (i : Nat) : List Int := (List.range' i (s - i)).map (byteAt s x)
def putBytes (n : Int) (x : Int) : List Int := if isSize n = true then putFrom n.toNat x 0 else []
theorem putFrom_step (s : Nat) (x : Int) (i : Nat) (h : i < s) : putFrom s x i = byteAt s x i :: putFrom s x (i + 1) := by
  unfold putFrom
  rw [show s - i = (s - (i + 1)) + 1 by omega, List.range'_succ]
  rfl
theorem putFrom_end (s : Nat) (x : Int) : putFrom s x s = [] := by simp [putFrom]
theorem putFrom_length (s : Nat) (x : Int) (i : Nat) : (putFrom s x i).length = s - i := by simp [putFrom]

theorem field_sized_is (n : Int) : P.field_sized.f n = some (isSize n) := by
  unfold P.field_sized.f isSize
  by_cases h : n ≥ 1
  · rw [if_pos h]
    by_cases h2 : n ≤ 8
    · simp [h2]; omega
    · simp [h2]
  · rw [if_neg h]; simp; omega
theorem put_l0 (s : Nat) (hs : s ≤ 8) (x : Int) : ∀ m i (acc : List Int) k, s - i = m → i ≤ s → acc.length + m < 140737488355328 → m < k → P.field_Put.l0 k s x acc s i = some (acc ++ putFrom s x i) := by
  intro m
  induction m with
  | zero =>
    intro i acc k hm hi hl hk
    obtain ⟨k, rfl⟩ : ∃ q, k = q + 1 := ⟨k - 1, by omega⟩
    obtain rfl : i = s := by omega
    simp only [P.field_Put.l0]
    rw [if_neg (by omega), putFrom_end, List.append_nil]
  | succ m ih =>
    intro i acc k hm hi hl hk
    obtain ⟨k, rfl⟩ : ∃ q, k = q + 1 := ⟨k - 1, by omega⟩
    have hlt : i < s := by omega
    have e1 : wrap64 (8 * wrap64 (wrap64 ((s : Int) - 1) - i)) = ((8 * (s - 1 - i) : Nat) : Int) := by unfold wrap64; omega
    have e2 : wrap64 ((i : Int) + 1) = ((i + 1 : Nat) : Int) := by unfold wrap64; omega
    have e3 : shr .u64 x ((8 * (s - 1 - i) : Nat) : Int) % 256 = byteAt s x i := by
      unfold shr byteAt
      rw [Int.toNat_natCast, Nat.min_eq_left (show 8 * (s - 1 - i) ≤ IntKind.u64.bits from by have : IntKind.u64.bits = 64 := rfl; omega)]
    simp only [P.field_Put.l0]
    rw [if_pos (by omega), e1, if_pos (by omega), if_pos (by omega), e3, e2, ih (i + 1) _ k (by omega) (by omega) (by simp; omega) (by omega), putFrom_step s x i hlt]
    simp
theorem isSize_iff {n : Int} : isSize n = true ↔ 1 ≤ n ∧ n ≤ 8 := by simp [isSize]
theorem put_is (l : List Int) (n x : Int) (k : Nat) (hk : 9 ≤ k) (hl : l.length < 140737488355320) : P.field_Put.f k l n x = some (l ++ putBytes n x) := by
  unfold P.field_Put.f G.slices_Clone.f putBytes
  rw [if_pos (by omega), Option.bind_some, field_sized_is, Option.bind_some]
  by_cases h : isSize n = true
  · rw [if_pos h, if_pos h]
    have h' := isSize_iff.1 h
    obtain ⟨s, rfl⟩ := Int.eq_ofNat_of_zero_le (show 0 ≤ n by omega)
    rw [Int.toNat_natCast]
    exact put_l0 s (by omega) x s 0 l k rfl (by omega) (by omega) (by omega)
  · rw [if_neg h, if_neg h, List.append_nil]
theorem lay_is (l : List Int) (n x : Int) (k : Nat) (hk : 9 ≤ k) (hl : l.length < 140737488355320) : P.field_Lay.f k l n x = some (l ++ putBytes n (IntKind.u64.wrap x)) := by
  unfold P.field_Lay.f
  rw [put_is l n _ k hk hl]; rfl
theorem byteAt_range (s : Nat) (x : Int) (j : Nat) : 0 ≤ byteAt s x j ∧ byteAt s x j ≤ 255 := by unfold byteAt; omega
theorem putFrom_range (s : Nat) (x : Int) (i : Nat) : ∀ c ∈ putFrom s x i, 0 ≤ c ∧ c ≤ 255 := by
  intro c hc
  simp only [putFrom, List.mem_map] at hc
  obtain ⟨j, _, rfl⟩ := hc
  exact byteAt_range s x j
theorem putBytes_range (n : Int) (x : Int) : ∀ c ∈ putBytes n x, 0 ≤ c ∧ c ≤ 255 := by
  intro c hc
  unfold putBytes at hc
  split at hc
  · exact putFrom_range _ _ _ c hc
  · simp at hc
theorem putBytes_length (n x : Int) : (putBytes n x).length = if isSize n = true then n.toNat else 0 := by
  unfold putBytes
  split
  · rw [putFrom_length]; rfl
  · rfl
/-- The number of the bytes from a place on: what is left of x there. -/
theorem num_putFrom (s : Nat) (x : Int) (hx : 0 ≤ x) : ∀ m i, s - i = m → i ≤ s → ∀ a, (putFrom s x i).foldl (fun x c => x * 256 + c) a = a * 256 ^ m + x % 256 ^ m := by
  intro m
  induction m with
  | zero =>
    intro i hm hi a
    obtain rfl : i = s := by omega
    rw [putFrom_end]
    simp [Int.emod_one]
  | succ m ih =>
    intro i hm hi a
    rw [putFrom_step s x i (by omega), List.foldl_cons, ih (i + 1) (by omega) (by omega)]
    have e : byteAt s x i = x / 256 ^ m % 256 := by
      unfold byteAt
      rw [show 8 * (s - 1 - i) = 8 * m by omega, Int.pow_mul]
      rfl
    rw [e, Int.pow_succ, Int.add_mul]
    have h1 : x % (256 ^ m * 256) = x % 256 ^ m + 256 ^ m * (x / 256 ^ m % 256) := by
      obtain ⟨y, rfl⟩ := Int.eq_ofNat_of_zero_le hx
      have h0 : y % (256 ^ m * 256) = y % 256 ^ m + 256 ^ m * (y / 256 ^ m % 256) := Nat.mod_mul
      have h2 := congrArg (fun z : Nat => (z : Int)) h0
      simpa using h2
    rw [h1, Int.mul_assoc a, Int.mul_comm 256 (256 ^ m), Int.mul_comm (x / 256 ^ m % 256)]
    omega
theorem num_put (n x : Int) (hx : 0 ≤ x) (h : isSize n = true) : num (putBytes n x) = x % 256 ^ n.toNat := by
  unfold putBytes num
  rw [if_pos h, num_putFrom n.toNat x hx n.toNat 0 rfl (by omega) 0]
  simp
theorem num_shift (l : List Int) : ∀ a : Int, l.foldl (fun x c => x * 256 + c) a = a * 256 ^ l.length + num l := by
  induction l with
  | nil => intro a; simp [num]
  | cons c l ih =>
    intro a
    have h1 := ih (a * 256 + c)
    have h2 := ih c
    have e : num (c :: l) = l.foldl (fun x c => x * 256 + c) c := by simp [num]
    rw [List.foldl_cons, h1, e, h2, List.length_cons, Int.pow_succ, Int.add_mul, Int.mul_assoc, Int.mul_comm 256 (256 ^ l.length)]
    omega
theorem num_append (l m : List Int) : num (l ++ m) = num l * 256 ^ m.length + num m := by
  unfold num
  rw [List.foldl_append, num_shift]; rfl
theorem byte_of (l : List Int) (h : ∀ x ∈ l, 0 ≤ x ∧ x ≤ 255) : ∀ (a : Int) (j : Nat) (hj : j < l.length), l.foldl (fun x c => x * 256 + c) a / 2 ^ (8 * (l.length - 1 - j)) % 256 = l[j] := by
  induction l with
  | nil => intro a j hj; simp at hj
  | cons c l ih =>
    intro a j hj
    have hc := h c (by simp)
    cases j with
    | succ j =>
      have := ih (fun x hx => h x (by simp [hx])) (a * 256 + c) j (by simpa using hj)
      rw [List.foldl_cons, List.getElem_cons_succ, ← this, List.length_cons, show l.length + 1 - 1 - (j + 1) = l.length - 1 - j by omega]
    | zero =>
      have hr := num_range l (fun x hx => h x (by simp [hx]))
      rw [List.foldl_cons, List.getElem_cons_zero, List.length_cons, show l.length + 1 - 1 - 0 = l.length by omega, Int.pow_mul, show (2 : Int) ^ 8 = 256 from rfl, num_shift, Int.add_comm, Int.add_mul_ediv_right _ _ (by have := Int.pow_pos (n := 256) (m := l.length) (by decide); omega), Int.ediv_eq_zero_of_lt hr.1 hr.2]
      omega
theorem put_num (n : Int) (l : List Int) (hn : isSize n = true) (hl : l.length = n.toNat) (h : ∀ x ∈ l, 0 ≤ x ∧ x ≤ 255) : putBytes n (num l) = l := by
  unfold putBytes
  rw [if_pos hn]
  refine List.ext_getElem? fun j => ?_
  by_cases hj : j < l.length
  · have e1 : (putFrom n.toNat (num l) 0)[j]? = some (byteAt n.toNat (num l) j) := by
      unfold putFrom
      rw [List.getElem?_map, List.getElem?_range' (by omega)]
      simp
    rw [e1, List.getElem?_eq_getElem hj]
    unfold byteAt
    rw [← hl]
    exact congrArg some (byte_of l h 0 j hj)
  · rw [List.getElem?_eq_none (by rw [putFrom_length]; omega), List.getElem?_eq_none (by omega)]

end Go.Proofs.Ytngjaaldidmgjaa.G
