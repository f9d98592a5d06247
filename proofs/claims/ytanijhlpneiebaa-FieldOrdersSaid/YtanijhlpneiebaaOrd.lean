/- quiverlaw01.FieldOrders answers true, for every size and two numbers. -/
import Derived.Test.YtanijhlpneiebaaPx5
import Derived.Test.YtanijhlpneiebaaS1
namespace Go.Proofs.Ytanijhlpneiebaa.G
open Go.RowKit Go.Proofs.YtanijhlpneiebaaW.PrintWords Go.Proofs.YtanijhlpneiebaaW.PrintLast Go.Proofs.YtanijhlpneiebaaW.PrintMore
set_option linter.unusedVariables false
set_option linter.unusedSimpArgs false

def sgn (x y : Int) : Int := if x < y then -1 else if y < x then 1 else 0
theorem num_cons (x : Int) (l : List Int) : num (x :: l) = x * 256 ^ l.length + num l := by
  show l.foldl (fun x c => x * 256 + c) (0 * 256 + x) = _
  rw [Int.zero_mul, Int.zero_add, num_shift]
theorem num_in : ∀ (l : List Int), (∀ x ∈ l, 0 ≤ x ∧ x ≤ 255) → 0 ≤ num l ∧ num l < 256 ^ l.length
  | [], _ => by simp [num]
  | x :: l, h => by
    have ih := num_in l (fun y hy => h y (by simp [hy]))
    have hx := h x (by simp)
    rw [num_cons, List.length_cons, Int.pow_succ]
    have h1 : x * 256 ^ l.length ≤ 255 * 256 ^ l.length := Int.mul_le_mul_of_nonneg_right hx.2 (by omega)
    have h2 : 0 ≤ x * 256 ^ l.length := Int.mul_nonneg hx.1 (by omega)
    omega
theorem cmp_num : ∀ (l m : List Int), l.length = m.length → (∀ x ∈ l, 0 ≤ x ∧ x ≤ 255) → (∀ x ∈ m, 0 ≤ x ∧ x ≤ 255) → cmpL l m = sgn (num l) (num m)
  | [], [], _, _, _ => by simp [cmpL, sgn, num]
  | x :: l, y :: m, hlen, hl, hm => by
    have hlen' : l.length = m.length := by simpa using hlen
    have ih := cmp_num l m hlen' (fun z hz => hl z (by simp [hz])) (fun z hz => hm z (by simp [hz]))
    have r1 := num_in l (fun z hz => hl z (by simp [hz]))
    have r2 := num_in m (fun z hz => hm z (by simp [hz]))
    have key : ∀ a b : Int, a < b → a * 256 ^ m.length + 256 ^ m.length ≤ b * 256 ^ m.length := by
      intro a b h
      have := Int.mul_le_mul_of_nonneg_right (show a + 1 ≤ b by omega) (show (0 : Int) ≤ 256 ^ m.length by omega)
      rw [Int.add_mul, Int.one_mul] at this
      exact this
    rw [cmpL, num_cons, num_cons, hlen']
    rw [hlen'] at r1
    by_cases h1 : x < y
    · have := key x y h1
      rw [if_pos h1]
      unfold sgn
      rw [if_pos (by omega)]
    · by_cases h2 : y < x
      · have := key y x h2
        rw [if_neg h1, if_pos h2]
        unfold sgn
        rw [if_neg (by omega), if_pos (by omega)]
      · have : x = y := by omega
        subst this
        rw [if_neg h1, if_neg h2, ih]
        unfold sgn
        generalize x * 256 ^ m.length = q
        by_cases h3 : num l < num m
        · rw [if_pos h3, if_pos (by omega)]
        · by_cases h4 : num m < num l
          · rw [if_neg h3, if_pos h4, if_neg (by omega), if_pos (by omega)]
          · rw [if_neg h3, if_neg h4, if_neg (by omega), if_neg (by omega)]

theorem flip_is : ∀ b : Fin 256, bits .xor .u8 (b.val : Int) 128 = if b.val < 128 then (b.val : Int) + 128 else (b.val : Int) - 128 := by decide +kernel
theorem flip_eq (b : Int) (h0 : 0 ≤ b) (h1 : b ≤ 255) : bits .xor .u8 b 128 = if b < 128 then b + 128 else b - 128 := by
  have := flip_is ⟨b.toNat, by omega⟩
  simp only [Int.toNat_of_nonneg h0] at this
  rw [this]
  by_cases h : b < 128
  · rw [if_pos h, if_pos (by omega)]
  · rw [if_neg h, if_neg (by omega)]

/-- A field with its highest bit turned: the number with a sign, moved up by half. -/
theorem turned (n : Nat) (h1 : 1 ≤ n) (h8 : n ≤ 8) (x : Int) (h0 : 0 ≤ x) (hx : x ≤ 18446744073709551615) (hz : -(256 ^ n) ≤ 2 * IntKind.i64.wrap x ∧ 2 * IntKind.i64.wrap x < 256 ^ n) :
    ∃ b r, putBytes n x = b :: r ∧ r.length = n - 1 ∧ (0 ≤ b ∧ b ≤ 255) ∧ (∀ c ∈ r, 0 ≤ c ∧ c ≤ 255) ∧ (0 ≤ bits .xor .u8 b 128 ∧ bits .xor .u8 b 128 ≤ 255) ∧ num (bits .xor .u8 b 128 :: r) = IntKind.i64.wrap x + 128 * 256 ^ (n - 1) := by
  have hs : isSize (n : Int) = true := isSize_iff.2 (by omega)
  have hlen : (putBytes n x).length = n := by rw [putBytes_length, if_pos hs]; omega
  have hrg := putBytes_range n x
  have hnum := num_put n x h0 hs
  rw [Int.toNat_natCast] at hnum
  cases hp : putBytes n x with
  | nil => rw [hp] at hlen; simp at hlen; omega
  | cons b r =>
    rw [hp] at hlen hrg hnum
    have hr : r.length = n - 1 := by simp at hlen; omega
    have hb := hrg b (by simp)
    have hrr : ∀ c ∈ r, 0 ≤ c ∧ c ≤ 255 := fun c hc => hrg c (by simp [hc])
    have hri := num_in r hrr
    rw [num_cons, hr] at hnum
    rw [hr] at hri
    refine ⟨b, r, rfl, hr, hb, hrr, ?_, ?_⟩
    · rw [flip_eq b hb.1 hb.2]; split <;> omega
    · rw [num_cons, hr, flip_eq b hb.1 hb.2]
      rw [IntKind.wrap_i64] at hz ⊢
      obtain rfl | rfl | rfl | rfl | rfl | rfl | rfl | rfl : n = 1 ∨ n = 2 ∨ n = 3 ∨ n = 4 ∨ n = 5 ∨ n = 6 ∨ n = 7 ∨ n = 8 := by omega
      all_goals simp only [Int.reducePow, Nat.reduceSub, Int.pow_zero] at *
      all_goals (split <;> omega)

theorem compare_u64 (x y : Int) : P.cmp_Compare_uint64.f x y = some (sgn x y) := by
  unfold P.cmp_Compare_uint64.f P.cmp_isNaN_uint64.f sgn
  simp
  split <;> (try rfl)
  split <;> rfl
theorem compare_i64 (x y : Int) : P.cmp_Compare_int64.f x y = some (sgn x y) := by
  unfold P.cmp_Compare_int64.f P.cmp_isNaN_int64.f sgn
  simp
  split <;> (try rfl)
  split <;> rfl

theorem u64_i64 (x : Int) (h0 : 0 ≤ x) (h1 : x ≤ 18446744073709551615) : IntKind.u64.wrap (wrap64 x) = x := by
  rw [← i64_w, IntKind.wrap_i64, IntKind.wrap_u64]; omega
theorem cmp_put (l m : List Int) (hl : ∀ x ∈ l, 0 ≤ x ∧ x ≤ 255) (hm : ∀ x ∈ m, 0 ≤ x ∧ x ≤ 255) (hlen : l.length = m.length) : bytes_Compare.f l m = some (sgn (num l) (num m)) := by
  unfold bytes_Compare.f
  rw [if_pos ⟨(bytesOk_iff l).2 hl, (bytesOk_iff m).2 hm⟩, cmp_num l m hlen hl hm]
theorem sgn_add (x y q : Int) : sgn (x + q) (y + q) = sgn x y := by
  unfold sgn
  by_cases h1 : x < y
  · rw [if_pos h1, if_pos (by omega)]
  · by_cases h2 : y < x
    · rw [if_neg h1, if_pos h2, if_neg (by omega), if_pos (by omega)]
    · rw [if_neg h1, if_neg h2, if_neg (by omega), if_neg (by omega)]

theorem orders_j1 (n : Nat) (h1 : 1 ≤ n) (h8 : n ≤ 8) (x y : Int) (hx : 0 ≤ x ∧ x ≤ 18446744073709551615) (hy : 0 ≤ y ∧ y ≤ 18446744073709551615) (k : Nat) (hk : 11 ≤ k) : P.quiverlaw01_FieldOrders.j1 k n x y false = some true := by
  obtain ⟨k, rfl⟩ : ∃ m, k = m + 2 := ⟨k - 2, by omega⟩
  have hs : isSize (n : Int) = true := isSize_iff.2 (by omega)
  have r1 : -9223372036854775808 ≤ wrap64 x ∧ wrap64 x < 9223372036854775808 := by rw [← i64_w, IntKind.wrap_i64]; omega
  have r2 : -9223372036854775808 ≤ wrap64 y ∧ wrap64 y < 9223372036854775808 := by rw [← i64_w, IntKind.wrap_i64]; omega
  have hj2 : ∀ q : Bool, (q = false → (-(256 ^ n) ≤ 2 * wrap64 x ∧ 2 * wrap64 x < 256 ^ n) ∧ (-(256 ^ n) ≤ 2 * wrap64 y ∧ 2 * wrap64 y < 256 ^ n)) → P.quiverlaw01_FieldOrders.j2 (k + 1) n x y q = some true := by
    intro q hq
    rw [P.quiverlaw01_FieldOrders.j2]
    cases q with
    | true => rfl
    | false =>
      obtain ⟨f1, f2⟩ := hq rfl
      rw [← i64_w] at f1 f2
      obtain ⟨b, r, e1, l1, b1, rr1, v1, n1⟩ := turned n h1 h8 x hx.1 hx.2 f1
      obtain ⟨c, t, e2, l2, b2, rr2, v2, n2⟩ := turned n h1 h8 y hy.1 hy.2 f2
      rw [if_neg (by simp), lay_is [] n (wrap64 x) k (by omega) (by simp), lay_is [] n (wrap64 y) k (by omega) (by simp), u64_i64 x hx.1 hx.2, u64_i64 y hy.1 hy.2, List.nil_append, List.nil_append, e1, e2]
      simp only [Option.bind_some]
      rw [if_pos (by simp only [List.length_cons]; omega), if_pos (by simp only [List.length_cons]; omega)]
      have s1 : (b :: r).set (0 : Int).toNat (bits .xor .u8 (rd (b :: r) 0) 128) = bits .xor .u8 b 128 :: r := rfl
      have s2 : (c :: t).set (0 : Int).toNat (bits .xor .u8 (rd (c :: t) 0) 128) = bits .xor .u8 c 128 :: t := rfl
      rw [s1, s2, cmp_put _ _ (by intro z hz; rcases List.mem_cons.1 hz with rfl | hz; exact v1; exact rr1 z hz) (by intro z hz; rcases List.mem_cons.1 hz with rfl | hz; exact v2; exact rr2 z hz) (by simp [l1, l2])]
      simp only [Option.bind_some]
      rw [compare_i64, n1, n2, sgn_add, i64_w, i64_w]
      simp
  rw [P.quiverlaw01_FieldOrders.j1, if_neg (by simp), field_FitsInt_is n _ r1.1 r1.2, hs, Bool.true_and, Int.toNat_natCast]
  simp only [Option.bind_some]
  by_cases d1 : -(256 ^ n) ≤ 2 * wrap64 x ∧ 2 * wrap64 x < 256 ^ n
  · rw [if_pos (by simpa using d1), field_FitsInt_is n _ r2.1 r2.2, hs, Bool.true_and, Int.toNat_natCast]
    simp only [Option.bind_some]
    refine hj2 _ fun h => ⟨d1, ?_⟩
    simpa using h
  · rw [if_neg (by simpa using d1)]
    exact hj2 true (fun h => by cases h)

theorem orders_pure : P.quiverlaw01_FieldOrders.Pure := by
  intro n x y wn wx wy
  have hx : 0 ≤ x ∧ x ≤ 18446744073709551615 := by simpa [Lit.wf, IntKind.min, IntKind.max, IntKind.signed, IntKind.bits] using wx
  have hy : 0 ≤ y ∧ y ≤ 18446744073709551615 := by simpa [Lit.wf, IntKind.min, IntKind.max, IntKind.signed, IntKind.bits] using wy
  refine ⟨19 + 1, ?_⟩
  unfold P.quiverlaw01_FieldOrders.f
  rw [show wakes01.f = some true from rfl]
  simp only [Option.bind_some, if_true]
  have out : isSize n = false → ((P.field_Put.f 19 ([] : List Int) n x).bind fun t265 => some ((t265.length : Int) == 0)) = some true := by
    intro h
    rw [put_is [] n x 19 (by omega) (by simp)]
    simp [putBytes, h]
  by_cases h1 : n < 1
  · rw [if_pos h1, P.quiverlaw01_FieldOrders.j0, if_pos rfl]
    exact out (by simp [isSize]; omega)
  rw [if_neg h1, P.quiverlaw01_FieldOrders.j0]
  by_cases h8 : n > 8
  · rw [if_pos (by simpa using h8)]
    exact out (by simp [isSize]; omega)
  rw [if_neg (by simpa using h8)]
  obtain ⟨m, rfl⟩ : ∃ m : Nat, n = m := ⟨n.toNat, by omega⟩
  have hs : isSize (m : Int) = true := isSize_iff.2 (by omega)
  have hj := orders_j1 m (by omega) (by omega) x y hx hy 19 (by omega)
  rw [field_Fits_is m x hx.1 (by omega), hs, Bool.true_and, Int.toNat_natCast]
  simp only [Option.bind_some]
  by_cases d1 : x < 256 ^ m
  · rw [if_pos (by simpa using d1), field_Fits_is m y hy.1 (by omega), hs, Bool.true_and, Int.toNat_natCast]
    simp only [Option.bind_some]
    by_cases d2 : y < 256 ^ m
    · rw [if_pos (by simpa using d2), put_is [] m x 19 (by omega) (by simp), put_is [] m y 19 (by omega) (by simp)]
      simp only [Option.bind_some, List.nil_append]
      rw [cmp_put _ _ (putBytes_range m x) (putBytes_range m y) (by rw [putBytes_length, putBytes_length]), num_put m x hx.1 hs, num_put m y hy.1 hs, Int.toNat_natCast, Int.emod_eq_of_lt hx.1 d1, Int.emod_eq_of_lt hy.1 d2]
      simp only [Option.bind_some]
      rw [compare_u64]
      simp only [Option.bind_some, bne_self_eq_false]
      exact hj
    · rw [if_neg (by simpa using d2)]
      exact hj
  · rw [if_neg (by simpa using d1)]
    exact hj

theorem fieldOrders.walk (a0 a1 a2 : Int) (w : World) (w0 : (Lit.int .i64 a0).wf = true) (w1 : (Lit.int .u64 a1).wf = true) (w2 : (Lit.int .u64 a2).wf = true) :
    Calls Try.prog 16 #[.int .i64 a0, .int .u64 a1, .int .u64 a2] w fun e w' => e = .returned (.bool true) ∧ Below w.heap.size w w' :=
  P.quiverlaw01_FieldOrders.walk orders_pure a0 a1 a2 w w0 w1 w2

end Go.Proofs.Ytanijhlpneiebaa.G
