/- What the printed functions over vectors come to: Same, Right, Of, Dist, the document's: plain. The document's quiverref05 answers as the code's own: plain. What field's printed functions come to: Put, Lay, Fits, FitsInt, and the document's, in plain lists and numbers. Contracts of codec.laid, Vec, Row, Version. The reader: what vec reads. taken: what is read from bytes by a reader. Contract of codec.TakeVec. What is read from bytes by the codec's reader, in closed form: plain. -/
import Derived.Test.YtngjaaldidmgjaaMA
import Derived.Test.YtngjaaldidmgjaaPx1
import Derived.IntWalk
import Derived.Test.YtngjaaldidmgjaaPx3
import Derived.Test.YtngjaaldidmgjaaPx4
import Derived.Test.YtngjaaldidmgjaaMB
import Derived.Test.YtngjaaldidmgjaaPx5
import Derived.Test.YtngjaaldidmgjaaPx6
import Derived.Handy
import Derived.Deep.CutRange
namespace Go.Proofs.Ytngjaaldidmgjaa.G

section
open Go.Shelf Go.RowKit Go.Proofs.YtngjaaldidmgjaaW.PrintWords Go.Proofs.YtngjaaldidmgjaaW.PrintLast Go.Proofs.YtngjaaldidmgjaaW.PrintMore
set_option linter.unusedVariables false
set_option linter.unusedSimpArgs false

theorem w64 {i : Int} (h0 : -9223372036854775808 ≤ i) (h1 : i < 9223372036854775808) : wrap64 i = i := by unfold wrap64; omega
theorem w32 {i : Int} (h0 : -2147483648 ≤ i) (h1 : i < 2147483648) : wrap32 i = i := by unfold wrap32; omega
theorem rd_nat (l : List Int) (i : Nat) : rd l (i : Int) = l.getD i 0 := by unfold rd; rw [Int.toNat_natCast]
theorem getD_of_lt {α : Type} (l : List α) (i : Nat) (d : α) (h : i < l.length) : l.getD i d = l[i] := by
  rw [List.getD_eq_getElem?_getD, List.getElem?_eq_getElem h, Option.getD_some]
theorem drop_at {α : Type} (l : List α) (i : Nat) (d : α) (h : i < l.length) : l.drop i = l.getD i d :: l.drop (i + 1) := by
  rw [List.drop_eq_getElem_cons h, getD_of_lt l i d h]

theorem equal_l0 (l m : List Int) (hlm : l.length = m.length) (hl : l.length ≤ 9223372036854775807) : ∀ (d i k : Nat), i + d = l.length → d < k → P.slices_Equal_int32_int32.l0 k l m (l.length : Int) (i : Int) = some (decide (l.drop i = m.drop i))
  | 0, i, k + 1, h, _ => by
    rw [P.slices_Equal_int32_int32.l0, if_neg (by omega), List.drop_eq_nil_of_le (by omega), List.drop_eq_nil_of_le (by omega)]
    rfl
  | d + 1, i, k + 1, h, hk => by
    rw [P.slices_Equal_int32_int32.l0, if_pos (by omega), if_pos (by omega), if_pos (by omega), if_pos (by omega), rd_nat, rd_nat, drop_at l i 0 (by omega), drop_at m i 0 (by omega)]
    by_cases e : l.getD i 0 = m.getD i 0
    · rw [if_pos e, w64 (by omega) (by omega), show ((i : Int) + 1) = ((i + 1 : Nat) : Int) by omega, equal_l0 l m hlm hl d (i + 1) k (by omega) (by omega), e]
      simp
    · rw [if_neg e, decide_eq_false (fun h => e (List.cons.inj h).1)]
theorem same_is (k : Nat) (l m : List Int) (hk : l.length < k) (hl : l.length ≤ 9223372036854775807) : P.vec_Same.f k l m = some (decide (l = m)) := by
  unfold P.vec_Same.f P.slices_Equal_int32_int32.f
  by_cases h : l.length = m.length
  · rw [if_pos (by omega)]
    have := equal_l0 l m h hl l.length 0 k (by omega) (by omega)
    rw [List.drop_zero, List.drop_zero] at this
    rw [show (0 : Int) = ((0 : Nat) : Int) from rfl, this]
    rfl
  · rw [if_neg (by omega)]
    have : l ≠ m := fun e => h (by rw [e])
    simp [this]
end

section
open Go.Shelf Go.RowKit Go.Proofs.YtngjaaldidmgjaaW.PrintWords Go.Proofs.YtngjaaldidmgjaaW.PrintLast Go.Proofs.YtngjaaldidmgjaaW.PrintMore
set_option linter.unusedVariables false
set_option linter.unusedSimpArgs false

theorem refsame_l0 (l m : List Int) (hlm : l.length = m.length) (hl : l.length ≤ 9223372036854775807) : ∀ (d i k : Nat), i + d = l.length → d < k → P.quiverref05_Same.l0 k l m (i : Int) = some (decide (l.drop i = m.drop i))
  | 0, i, k + 1, h, _ => by
    rw [P.quiverref05_Same.l0, if_neg (by omega), List.drop_eq_nil_of_le (by omega), List.drop_eq_nil_of_le (by omega)]
    rfl
  | d + 1, i, k + 1, h, hk => by
    rw [P.quiverref05_Same.l0, if_pos (by omega), if_pos (by omega), if_pos (by omega), rd_nat, rd_nat, drop_at l i 0 (by omega), drop_at m i 0 (by omega)]
    by_cases e : l.getD i 0 = m.getD i 0
    · rw [if_pos e, w64 (by omega) (by omega), show ((i : Int) + 1) = ((i + 1 : Nat) : Int) by omega, refsame_l0 l m hlm hl d (i + 1) k (by omega) (by omega), e]
      simp
    · rw [if_neg e, decide_eq_false (fun h => e (List.cons.inj h).1)]
theorem refsame_is (k : Nat) (l m : List Int) (hk : l.length < k) (hl : l.length ≤ 9223372036854775807) : P.quiverref05_Same.f k l m = some (decide (l = m)) := by
  unfold P.quiverref05_Same.f
  by_cases h : l.length = m.length
  · rw [if_pos (by omega)]
    have := refsame_l0 l m h hl l.length 0 k (by omega) (by omega)
    rw [List.drop_zero, List.drop_zero] at this
    rw [show (0 : Int) = ((0 : Nat) : Int) from rfl, this]
  · rw [if_neg (by omega)]
    have : l ≠ m := fun e => h (by rw [e])
    simp [this]
theorem right_l0 (l : List Int) (hl : l.length ≤ 9223372036854775807) : ∀ (d i k : Nat), i + d = l.length → d < k → P.quiverref05_Right.l0 k l (i : Int) = some (decide (1 ≤ l.length ∧ l.length ≤ 4) && (l.drop i).all okC)
  | 0, i, k + 1, h, _ => by
    rw [P.quiverref05_Right.l0, if_neg (by omega), List.drop_eq_nil_of_le (by omega)]
    by_cases h1 : 1 ≤ l.length
    · rw [if_pos (by omega)]
      simp [h1]
      omega
    · rw [if_neg (by omega)]
      simp [h1]
  | d + 1, i, k + 1, h, hk => by
    rw [P.quiverref05_Right.l0, if_pos (by omega), if_pos (by omega), rd_nat, drop_at l i 0 (by omega), List.all_cons]
    by_cases h1 : l.getD i 0 < -1073741823
    · have e : okC (l.getD i 0) = false := by unfold okC; exact decide_eq_false (by omega)
      rw [if_pos h1, e]; simp
    · by_cases h2 : l.getD i 0 > 1073741823
      · have e : okC (l.getD i 0) = false := by unfold okC; exact decide_eq_false (by omega)
        rw [if_neg h1, if_pos h2, e]; simp
      · have e : okC (l.getD i 0) = true := by unfold okC; exact decide_eq_true (by omega)
        rw [if_neg h1, if_neg h2, w64 (by omega) (by omega), show ((i : Int) + 1) = ((i + 1 : Nat) : Int) by omega, right_l0 l hl d (i + 1) k (by omega) (by omega), e, Bool.true_and]
theorem right_is (k : Nat) (l : List Int) (hk : l.length < k) (hl : l.length ≤ 9223372036854775807) : P.quiverref05_Right.f k l = some (right l) := by
  unfold P.quiverref05_Right.f right
  have := right_l0 l hl l.length 0 k (by omega) (by omega)
  rw [List.drop_zero] at this
  exact this
end

section
open Go.RowKit Go.Proofs.YtngjaaldidmgjaaW.PrintWords Go.Proofs.YtngjaaldidmgjaaW.PrintLast Go.Proofs.YtngjaaldidmgjaaW.PrintMore
set_option linter.unusedVariables false
set_option linter.unusedSimpArgs false

/-- Byte j of a field of s bytes. -/
def byteAt (s : Nat) (x : Int) (j : Nat) : Int := x / 2 ^ (8 * (s - 1 - j)) % 256
def putFrom (s : Nat) (x : Int) (i : Nat) : List Int := (List.range' i (s - i)).map (byteAt s x)
def putBytes (n : Int) (x : Int) : List Int := if isSize n = true then putFrom n.toNat x 0 else []
theorem putFrom_step (s : Nat) (x : Int) (i : Nat) (h : i < s) : putFrom s x i = byteAt s x i :: putFrom s x (i + 1) := by
  unfold putFrom
  rw [show s - i = (s - (i + 1)) + 1 by omega, List.range'_succ]
  rfl
theorem putFrom_end (s : Nat) (x : Int) : putFrom s x s = [] := by simp [putFrom]
theorem field_sized_is (n : Int) : P.field_sized.f n = some (isSize n) := by
  unfold P.field_sized.f isSize
  by_cases h : n ≥ 1
  · rw [if_pos h]
    by_cases h2 : n ≤ 8
    · simp [h2]; omega
    · simp [h2]
  · rw [if_neg h]; simp; omega
theorem put_l0 (s : Nat) (hs : s ≤ 8) (x : Int) : ∀ m i (acc : List Int) k, s - i = m → i ≤ s → acc.length + m < 140737488355328 → m < k → P.field_Put.l0 k s x acc s i = some (acc ++ putFrom s x i) := by
  intro m
  induction m with
  | zero =>
    intro i acc k hm hi hl hk
    obtain ⟨k, rfl⟩ : ∃ q, k = q + 1 := ⟨k - 1, by omega⟩
    obtain rfl : i = s := by omega
    simp only [P.field_Put.l0]
    rw [if_neg (by omega), putFrom_end, List.append_nil]
  | succ m ih =>
    intro i acc k hm hi hl hk
    obtain ⟨k, rfl⟩ : ∃ q, k = q + 1 := ⟨k - 1, by omega⟩
    have hlt : i < s := by omega
    have e1 : wrap64 (8 * wrap64 (wrap64 ((s : Int) - 1) - i)) = ((8 * (s - 1 - i) : Nat) : Int) := by unfold wrap64; omega
    have e2 : wrap64 ((i : Int) + 1) = ((i + 1 : Nat) : Int) := by unfold wrap64; omega
    have e3 : shr .u64 x ((8 * (s - 1 - i) : Nat) : Int) % 256 = byteAt s x i := by
      unfold shr byteAt
      rw [Int.toNat_natCast, Nat.min_eq_left (show 8 * (s - 1 - i) ≤ IntKind.u64.bits from by have : IntKind.u64.bits = 64 := rfl; omega)]
    simp only [P.field_Put.l0]
    rw [if_pos (by omega), e1, if_pos (by omega), if_pos (by omega), e3, e2, ih (i + 1) _ k (by omega) (by omega) (by simp; omega) (by omega), putFrom_step s x i hlt]
    simp
theorem isSize_iff {n : Int} : isSize n = true ↔ 1 ≤ n ∧ n ≤ 8 := by simp [isSize]
theorem put_is (l : List Int) (n x : Int) (k : Nat) (hk : 9 ≤ k) (hl : l.length < 140737488355320) : P.field_Put.f k l n x = some (l ++ putBytes n x) := by
  unfold P.field_Put.f G.slices_Clone.f putBytes
  rw [if_pos (by omega), Option.bind_some, field_sized_is, Option.bind_some]
  by_cases h : isSize n = true
  · rw [if_pos h, if_pos h]
    have h' := isSize_iff.1 h
    obtain ⟨s, rfl⟩ := Int.eq_ofNat_of_zero_le (show 0 ≤ n by omega)
    rw [Int.toNat_natCast]
    exact put_l0 s (by omega) x s 0 l k rfl (by omega) (by omega) (by omega)
  · rw [if_neg h, if_neg h, List.append_nil]
theorem lay_is (l : List Int) (n x : Int) (k : Nat) (hk : 9 ≤ k) (hl : l.length < 140737488355320) : P.field_Lay.f k l n x = some (l ++ putBytes n (IntKind.u64.wrap x)) := by
  unfold P.field_Lay.f
  rw [put_is l n _ k hk hl]; rfl
theorem byteAt_range (s : Nat) (x : Int) (j : Nat) : 0 ≤ byteAt s x j ∧ byteAt s x j ≤ 255 := by unfold byteAt; omega
theorem putFrom_range (s : Nat) (x : Int) (i : Nat) : ∀ c ∈ putFrom s x i, 0 ≤ c ∧ c ≤ 255 := by
  intro c hc
  simp only [putFrom, List.mem_map] at hc
  obtain ⟨j, _, rfl⟩ := hc
  exact byteAt_range s x j
theorem putBytes_range (n : Int) (x : Int) : ∀ c ∈ putBytes n x, 0 ≤ c ∧ c ≤ 255 := by
  intro c hc
  unfold putBytes at hc
  split at hc
  · exact putFrom_range _ _ _ c hc
  · simp at hc
end

section
open Go.Shelf Go.RowKit Go.Proofs.YtngjaaldidmgjaaW.PrintWords Go.Proofs.YtngjaaldidmgjaaW.PrintLast Go.Proofs.YtngjaaldidmgjaaW.PrintMore
set_option linter.unusedVariables false
set_option linter.unusedSimpArgs false

/-- A component's bytes. -/
def numB (x : Int) : List Int := putBytes 4 (IntKind.u64.wrap x)
def vecT (v : List Int) : List Int := (v.map numB).flatten
/-- A vector's bytes. -/
def vecB (v : List Int) : List Int := ((v.length : Int) % 256) :: vecT v
theorem numB_len (x : Int) : (numB x).length = 4 := by unfold numB putBytes; rw [if_pos (by decide)]; rfl
theorem vecT_len (v : List Int) : (vecT v).length = 4 * v.length := by
  induction v with
  | nil => rfl
  | cons x v ih =>
    unfold vecT at ih ⊢
    rw [List.map_cons, List.flatten_cons, List.length_append, ih, numB_len, List.length_cons]
    omega
theorem number_is (l : List Int) (x : Int) (h1 : -2147483648 ≤ x) (h2 : x ≤ 2147483647) (hl : l.length < 140737488355320) : P.codec_number.f 20 l x = some (l ++ numB x) := by
  unfold P.codec_number.f
  rw [w64 (by omega) (by omega), lay_is l 4 x 20 (by omega) hl, Option.bind_some]
  rfl

set_option maxHeartbeats 4000000 in
set_option maxRecDepth 100000 in
theorem laid_go (w0 w : World) (A : Option Addr) (c : Nat) (b : List Int) (B : Option Addr) (d : Nat) (v : List Int) (hb : Below w0.heap.size w0 w) (ho : Kd.R (Kd.int .u8) 5 w w0.heap.size (fun _ => True) (.slice A b.length c) b) (hr : Kd.C (Kd.int .i32) w0 B v.length v) (hd : v.length ≤ d) (hv : ∀ x ∈ v, -2147483648 ≤ x ∧ x ≤ 2147483647) (hbl : b.length ≤ 1000) (hvl : v.length ≤ 1000) :
    Calls Try.prog 66 #[.slice A b.length c, .slice B v.length d, .func (.func 67) #[] #[]] w fun e w' => ∃ v0_ : Value, e = .returned v0_ ∧ Kd.R (Kd.int .u8) 5 w' w0.heap.size (fun _ => True) v0_ (b ++ vecB v) ∧ Below w0.heap.size w0 w' := by
  have HB := Aside0.mk hb
  have HO := Aside0.mk ho
  have HR := Aside0.mk hr
  have hm := Kd.C_max hr
  have eg : ∀ args w, (callFunc 67 args).run Try.prog w = .ok (.enter 67 args) w := enters_of Try.func67 (by kernel_rfl) rfl
  have HV := Aside0.mk hv
  clear hb ho hr hv
  go_enter Try.func66, Try.ntmps66
  go_wp2_with ((with_reducible refine gate_builtin (b := .append) (xs := #[.tmp 9, .tmp 13]) rfl ?_); at_builtin; refine Kd.R_append (Kd.int .u8) (w0 := w0) w0.heap.size rfl (.tmp 9) (.tmp 13) 30 5 (.int .u8 0) 1 rfl Try.underlying30 info_u8 rfl (by decide) (by omega) _ b ((v.length : Int) % 256) [.int .u8 ((v.length : Int) % 256)] (fun _ => True) (fun _ => False) rfl rfl rfl (fun _ hk => hk.elim) (fun _ _ => trivial) HO.out HB.out (below_size HB.out) (by omega) ?_; intro v1 w1 ho hb hg hat; clear hg hat; have HO1 := Aside0.mk ho; have HB1 := Aside0.mk hb; clear ho hb)
  go_loopg [0, 17] v.length (fun gg v0 s17 wr => ∃ kk : Nat, kk ≤ v.length ∧ v.length - kk ≤ gg ∧ s17 = .int .i64 kk ∧ Aside0 (Kd.R (Kd.int .u8) 5 wr w0.heap.size (fun _ => True) v0 (b ++ ((v.length : Int) % 256) :: vecT (v.take kk))) ∧ Aside0 (Below w0.heap.size w0 wr))
  case atStart => exact ⟨0, by omega, by omega, rfl, HO1, HB1⟩
  case round =>
    obtain ⟨kk, hkk, hg, rfl, HOk, HBk⟩ := hrel
    by_cases hlt : kk < v.length
    · have hltz : (kk : Int) < (v.length : Int) := by omega
      obtain ⟨ad, rfl, q⟩ := C_byte' HR.out kk hlt
      replace q := (HBk.out.cell (World.block_lt_of_cell? w0 _ q)).trans q
      have hx := HV.out _ (List.getElem_mem hlt)
      have hll : (b ++ ((v.length : Int) % 256) :: vecT (v.take kk)).length ≤ 10000 := by
        rw [List.length_append, List.length_cons, vecT_len, List.length_take]; omega
      have hn := HOk.out
      have HNX := Aside0.mk (show (b ++ ((v.length : Int) % 256) :: vecT (v.take kk)) ++ numB v[kk] = b ++ ((v.length : Int) % 256) :: vecT (v.take (kk + 1)) by
        rw [List.take_succ_eq_append_getElem hlt, show vecT (v.take kk ++ [v[kk]]) = vecT (v.take kk) ++ numB v[kk] by unfold vecT; rw [List.map_append, List.flatten_append]; simp]
        simp only [List.append_assoc, List.cons_append])
      rw [getD_of_lt v kk 0 hlt] at q
      generalize v[kk] = x at *
      generalize b ++ ((v.length : Int) % 256) :: vecT (v.take kk) = L at *
      obtain ⟨A', c', rfl, hl', hC'⟩ := Kd.R_reads hn
      have HCALL := Aside0.mk (P.codec_number.calls 20 A' c' L x (L ++ numB x) wr hC' hl' (number_is L x hx.1 hx.2 (by omega)))
      clear hn hC' hl' hx
      obtain ⟨wo, rfl⟩ : ∃ wo, wo = wr := ⟨_, rfl⟩
      go_wp2_with (go_at_fn 67; refine HCALL.out.mono ?_; rintro e w2 ⟨v2, rfl, ho2, hb2⟩; have HO2 := Aside0.mk (Kd.R_lower ho2 (below_size HBk.out)); have HB2 := Aside0.mk (below_step HBk.out hb2); clear ho2 hb2)
      rw [HNX.out] at HO2
      go_roundg (v.length - (kk + 1))
      case measure => omega
      case rel => exact ⟨kk + 1, by omega, by omega, by go_num, HO2, HB2⟩
    · have hltz : ¬ (kk : Int) < (v.length : Int) := by omega
      have hn := HOk.out
      rw [List.take_of_length_le (by omega)] at hn
      have HN := Aside0.mk hn
      clear hn
      go_wp2_with fail
      go_returns
      exact ⟨_, rfl, HN.out, HBk.out⟩

theorem right_range {v : List Int} (h : right v = true) : (1 ≤ v.length ∧ v.length ≤ 4) ∧ ∀ x ∈ v, -2147483648 ≤ x ∧ x ≤ 2147483647 := by
  unfold right at h
  rw [Bool.and_eq_true] at h
  refine ⟨of_decide_eq_true h.1, fun x hx => ?_⟩
  have := List.all_eq_true.1 h.2 x hx
  unfold okC at this
  have := of_decide_eq_true this
  omega
def codec_Vec.f (v : List Int) : Option (List Int × Int) := some (if right v = true then (vecB v, 0) else ([], 150))

set_option maxHeartbeats 4000000 in
set_option maxRecDepth 100000 in
theorem codec_Vec.calls (A0 : Option Addr) (c0 : Nat) (l0 : List Int) (r1 : List Int) (r2 : Int) (w : World) (hr : Kd.C (Kd.int .i32) w A0 l0.length l0) (hc : l0.length ≤ c0) (h : codec_Vec.f l0 = some (r1, r2)) :
    Calls Try.prog 36 #[.slice A0 l0.length c0] w fun e w' => ∃ v0_ : Value, e = .returned (.tuple #[v0_, .int .i64 r2]) ∧ Kd.R (Kd.int .u8) 5 w' w.heap.size (fun _ => True) v0_ r1 ∧ Below w.heap.size w w' := by
  replace h := Option.some.inj h
  have HR := Aside0.mk hr
  have HC := Aside0.mk hc
  have HCK := Aside0.mk (vec_Check.calls A0 c0 l0 (checkV l0) w hr hc rfl)
  clear hr hc
  by_cases hrt : right l0 = true
  · rw [if_pos hrt] at h
    obtain ⟨rfl, rfl⟩ := Prod.mk.inj h
    obtain ⟨⟨h1, h4⟩, hx⟩ := right_range hrt
    rw [show checkV l0 = 0 by unfold checkV; rw [if_pos hrt]] at HCK
    have HX := Aside0.mk hx
    clear hrt h hx
    go_enter Try.func36, Try.ntmps36
    go_wp2_with fail
    refine HCK.out.mono ?_
    rintro e w1 ⟨rfl, hd⟩
    have HB := Aside0.mk hd.below
    clear hd
    go_wp2_with fail
    refine (laid_go w w1 none 0 [] A0 c0 l0 HB.out (Kd.R_nil _ _ _ _ _) HR.out HC.out HX.out (by simp) (by omega)).mono ?_
    rintro e w2 ⟨v2, rfl, ho2, hb2⟩
    have HO2 := Aside0.mk ho2
    have HB2 := Aside0.mk hb2
    clear ho2 hb2
    go_wp2_with fail
    go_returns
    exact ⟨_, rfl, HO2.out, HB2.out⟩
  · rw [if_neg hrt] at h
    obtain ⟨rfl, rfl⟩ := Prod.mk.inj h
    rw [show checkV l0 = 150 by unfold checkV; rw [if_neg hrt]] at HCK
    clear hrt h
    go_enter Try.func36, Try.ntmps36
    go_wp2_with fail
    refine HCK.out.mono ?_
    rintro e w1 ⟨rfl, hd⟩
    have HB := Aside0.mk hd.below
    clear hd
    go_wp2_with fail
    go_returns
    exact ⟨_, rfl, Kd.R_nil _ _ _ _ _, HB.out⟩
end

section
open Go.Shelf Go.RowKit Go.Proofs.YtngjaaldidmgjaaW.PrintWords Go.Proofs.YtngjaaldidmgjaaW.PrintLast Go.Proofs.YtngjaaldidmgjaaW.PrintMore
set_option linter.unusedVariables false
set_option linter.unusedSimpArgs false

theorem info_i32 : (Try.prog.info? 21).map (fun i => (i.zero, i.size, i.bytes)) = some (some (.int .i32 0), 1, 4) := by kernel_rfl
/-- The reader at block r over the scan at block g. -/
def IsRd (w : World) (base : Nat) (ok : Nat → Prop) (r g : Nat) (bs : List Int) (pl : Nat) (sb rb : Bool) : Prop :=
  w.heap[r]? = some (.cells #[.pointer (some ⟨g, 0, none⟩), .bool rb] 109 (0, 0)) ∧ ¬ ok r ∧ r ≠ g ∧ IsScan w base ok g bs pl sb
def vint (bs : List Int) (pl : Nat) (sb : Bool) : Int := signed 4 (num (scTake bs pl sb 4))
def vloop (bs : List Int) : Nat → List Int × Nat × Bool → List Int × Nat × Bool
  | 0, s => s
  | n + 1, s => vloop bs n (s.1 ++ [vint bs s.2.1 s.2.2], scPl bs.length s.2.1 s.2.2 4, scBad bs.length s.2.1 s.2.2 4)
def rdN (bs : List Int) (pl : Nat) (sb : Bool) : Int := num (scTake bs pl sb 1)
def rdVec (bs : List Int) (pl : Nat) (sb rb : Bool) : List Int × Nat × Bool × Bool :=
  if scBad bs.length pl sb 1 = true then ([], scPl bs.length pl sb 1, true, rb)
  else if rdN bs pl sb < 1 ∨ 4 < rdN bs pl sb then ([], scPl bs.length pl sb 1, false, true)
  else ((vloop bs (rdN bs pl sb).toNat ([], scPl bs.length pl sb 1, false)).1, (vloop bs (rdN bs pl sb).toNat ([], scPl bs.length pl sb 1, false)).2.1, (vloop bs (rdN bs pl sb).toNat ([], scPl bs.length pl sb 1, false)).2.2, rb)
theorem vint_range (bs : List Int) (pl : Nat) (sb : Bool) (hby : ∀ x ∈ bs, 0 ≤ x ∧ x ≤ 255) : -2147483648 ≤ vint bs pl sb ∧ vint bs pl sb ≤ 2147483647 := by
  have h := scTake_range bs pl sb 4 hby
  rw [show (256 : Int) ^ (4 : Int).toNat = 4294967296 by decide] at h
  unfold vint signed
  rw [if_pos (by decide), show (256 : Int) ^ (4 : Int).toNat = 4294967296 by decide]
  split <;> omega
theorem IsRd.fr {w w1 : World} {base : Nat} {ok : Nat → Prop} {r g : Nat} {bs : List Int} {pl : Nat} {sb rb : Bool} (h : IsRd w base ok r g bs pl sb rb) (hf : Fr (· = g) w w1) {pl' : Nat} {sb' : Bool} (hI : IsScan w1 base ok g bs pl' sb') : IsRd w1 base ok r g bs pl' sb' rb :=
  ⟨(hf.block (blk_lt h.1) h.2.2.1).trans h.1, h.2.1, h.2.2.1, hI⟩

theorem IsRd.below {w w1 : World} {base : Nat} {ok : Nat → Prop} {r g : Nat} {bs : List Int} {pl : Nat} {sb rb : Bool} (h : IsRd w base ok r g bs pl sb rb) (hb : Below w.heap.size w w1) : IsRd w1 base ok r g bs pl sb rb :=
  ⟨blk_below h.1 hb, h.2.1, h.2.2.1, h.2.2.2.fr (Fr.of_below (S := fun _ => False) hb) (fun _ _ h => h)⟩

theorem Fr.low {S : Nat → Prop} {w w1 w2 : World} (h : Fr S w w1) (hb : Below w.heap.size w1 w2) : Fr S w w2 :=
  ⟨hb.os.trans h.os, hb.tape.trans h.tape, hb.output.trans h.output, ⟨Nat.le_trans h.size hb.size, fun k hk hs => (hb.block k hk).trans (h.block hk hs)⟩⟩
theorem IsRd.low {w w1 w2 : World} {base : Nat} {ok : Nat → Prop} {r g : Nat} {bs : List Int} {pl : Nat} {sb rb : Bool} (h : IsRd w1 base ok r g bs pl sb rb) (hb : Below w.heap.size w1 w2) (hr : r < w.heap.size) (hok : ∀ k, ok k → k < w.heap.size) : IsRd w2 base ok r g bs pl sb rb :=
  ⟨(hb.block r hr).trans h.1, h.2.1, h.2.2.1, h.2.2.2.step (fun k hk _ => hb.block k (hok k hk))⟩

set_option maxHeartbeats 2000000 in
set_option maxRecDepth 100000 in
theorem rdVec_go0 (base : Nat) (ok : Nat → Prop) (r g : Nat) (bs : List Int) (pl : Nat) (sb rb : Bool) (w : World) (hI : IsRd w base ok r g bs pl sb rb) (hok : ∀ k, ok k → k < w.heap.size) :
    Calls Try.prog 70 #[.pointer (some ⟨r, 0, none⟩)] w fun e w' => ∃ v0_ : Value, e = .returned v0_ ∧ Kd.R (Kd.int .i32) 21 w' w.heap.size (fun _ => True) v0_ (rdVec bs pl sb rb).1 ∧ IsRd w' base ok r g bs (rdVec bs pl sb rb).2.1 (rdVec bs pl sb rb).2.2.1 (rdVec bs pl sb rb).2.2.2 ∧ Fr (fun k => k = g ∨ k = r) w w' := by
  have HI := Aside0.mk hI
  have HOKW := Aside0.mk hok
  have HRW := Aside0.mk (blk_lt hI.1)
  have HGW := Aside0.mk hI.2.2.2.lt
  clear hok
  have hby := hI.2.2.2.bytes
  have HBY := Aside0.mk hby
  have q0 : w.cell? ⟨r, 0, none⟩ = some (.pointer (some ⟨g, 0, none⟩)) := (blk_cell hI.1 0).trans rfl
  have HNUM := Aside0.mk (ScNum base ok g bs pl sb 1 w hI.2.2.2)
  rw [show sizeOr 1 = 1 from rfl] at HNUM
  have hn0 := scTake_range bs pl sb 1 hby
  rw [show (256 : Int) ^ (1 : Int).toNat = 256 by decide] at hn0
  obtain ⟨hn1, hn2⟩ := hn0
  have HRV := Aside0.mk (show rdVec bs pl sb rb = (if scBad bs.length pl sb 1 = true then ([], scPl bs.length pl sb 1, true, rb)
    else if num (scTake bs pl sb 1) < 1 ∨ 4 < num (scTake bs pl sb 1) then ([], scPl bs.length pl sb 1, false, true)
    else ((vloop bs (num (scTake bs pl sb 1)).toNat ([], scPl bs.length pl sb 1, false)).1, (vloop bs (num (scTake bs pl sb 1)).toNat ([], scPl bs.length pl sb 1, false)).2.1, (vloop bs (num (scTake bs pl sb 1)).toNat ([], scPl bs.length pl sb 1, false)).2.2, rb)) from rfl)
  generalize rdVec bs pl sb rb = res at *
  generalize num (scTake bs pl sb 1) = n at *
  generalize scPl bs.length pl sb 1 = pl1 at *
  generalize scBad bs.length pl sb 1 = sb1 at *
  clear hI hby
  go_enter Try.func70, Try.ntmps70
  go_wp2_with fail
  refine HNUM.out.mono ?_
  rintro e w1 ⟨rfl, hI1, hf1⟩
  have HI1 := Aside0.mk (HI.out.fr hf1 hI1)
  have HF1 := Aside0.mk (hf1.mono (S' := fun k => k = g ∨ k = r) (fun _ h => .inl h))
  have q1 : w1.cell? ⟨r, 0, none⟩ = some (.pointer (some ⟨g, 0, none⟩)) := (blk_cell HI1.out.1 0).trans rfl
  clear q0 hI1 hf1 HNUM HI
  go_wp2_with fail
  refine (ScBadq base ok g bs pl1 sb1 w1 HI1.out.2.2.2).mono ?_
  rintro e w2 ⟨rfl, hd2⟩
  have HI2 := Aside0.mk (HI1.out.below hd2.below)
  have HF2 := Aside0.mk (HF1.out.below hd2.below)
  clear HI1 HF1 hd2 q1
  obtain ⟨w1, rfl⟩ : ∃ w1, w1 = w2 := ⟨_, rfl⟩
  have HI1 := HI2
  have HF1 := HF2
  clear HI2 HF2
  cases sb1 with
  | true =>
    rw [if_pos rfl] at HRV
    have h := HRV.out
    subst h
    clear HRV
    go_wp2_with fail
    go_returns
    exact ⟨_, rfl, Kd.R_nil _ _ _ _ _, HI1.out, HF1.out⟩
  | false =>
    rw [if_neg (by decide)] at HRV
    by_cases hn : n < 1 ∨ 4 < n
    · rw [if_pos hn] at HRV
      have h := HRV.out
      subst h
      have fz : w1.frozen? ⟨r, 1, none⟩ = false := blk_frozen HI1.out.1 1
      have q2 : w1.cell? ⟨r, 1, none⟩ = some (.bool rb) := (blk_cell HI1.out.1 1).trans rfl
      have HS := Aside0.mk (show IsRd (w1.setCell ⟨r, 1, none⟩ (.bool true)) base ok r g bs pl1 false true from
        ⟨by simpa using blk_set HI1.out.1 1 (.bool true), HI1.out.2.1, HI1.out.2.2.1, HI1.out.2.2.2.fr ((Fr.refl (fun k => k = r) w1).setCell (p := ⟨r, 1, none⟩) (.inl rfl) _) (fun k hk e => HI1.out.2.1 (by rw [← e]; exact hk))⟩)
      have HFS := Aside0.mk (HF1.out.setCell (p := ⟨r, 1, none⟩) (.inl (.inr rfl)) (.bool true))
      clear HRV
      by_cases hn3 : n < 1
      · clear hn
        go_wp2_with fail
        go_returns
        exact ⟨_, rfl, Kd.R_nil _ _ _ _ _, HS.out, HFS.out⟩
      · have hn4 : 4 < n := by omega
        clear hn
        go_wp2_with fail
        go_returns
        exact ⟨_, rfl, Kd.R_nil _ _ _ _ _, HS.out, HFS.out⟩
    · rw [if_neg hn] at HRV
      obtain ⟨m, rfl⟩ : ∃ m : Nat, n = (m : Int) := ⟨n.toNat, by omega⟩
      have hm1 : 1 ≤ m := by omega
      have hm4 : m ≤ 4 := by omega
      rw [Int.toNat_natCast] at HRV
      have k1 : ¬ (m : Int) < 1 := by omega
      have k2 : ¬ (4 : Int) < (m : Int) := by omega
      obtain ⟨fin, hfin⟩ : ∃ fin, fin = vloop bs m ([], pl1, false) := ⟨_, rfl⟩
      rw [← hfin] at HRV
      have HFIN := Aside0.mk hfin
      have HR0 := Aside0.mk (Kd.R_nil (Kd.int .i32) 21 w1 w.heap.size (fun _ => True))
      clear hn hn1 hn2 hfin
      go_wp2_with fail
      go_loopg [4, 26] m (fun gg v4 s26 wr => ∃ (kk : Nat) (xs : List Int) (plk : Nat) (sbk : Bool), kk ≤ m ∧ m - kk ≤ gg ∧ s26 = .int .i64 kk ∧ Aside0 (xs.length = kk) ∧ Aside0 (fin = vloop bs (m - kk) (xs, plk, sbk)) ∧ Aside0 (Kd.R (Kd.int .i32) 21 wr w.heap.size (fun _ => True) v4 xs) ∧ Aside0 (IsRd wr base ok r g bs plk sbk rb) ∧ Aside0 (Fr (fun k => k = g ∨ k = r) w wr))
      case atStart => exact ⟨0, [], pl1, false, by omega, by omega, rfl, ⟨rfl⟩, HFIN, HR0, HI1, HF1⟩
      case round =>
        obtain ⟨kk, xs, plk, sbk, hkk, hg, rfl, HXL, HFK, HOk, HIk, HFr⟩ := hrel
        by_cases hlt : kk < m
        · have hltz : (kk : Int) < (m : Int) := by omega
          have q0 : wr.cell? ⟨r, 0, none⟩ = some (.pointer (some ⟨g, 0, none⟩)) := (blk_cell HIk.out.1 0).trans rfl
          have HINT := Aside0.mk (ScInt base ok g bs plk sbk 4 wr HIk.out.2.2.2)
          rw [show sizeOr 4 = 4 from rfl] at HINT
          obtain ⟨hv1, hv2⟩ := vint_range bs plk sbk HBY.out
          have HFN := Aside0.mk (show fin = vloop bs (m - (kk + 1)) (xs ++ [vint bs plk sbk], scPl bs.length plk sbk 4, scBad bs.length plk sbk 4) by
            rw [HFK.out, show m - kk = (m - (kk + 1)) + 1 by omega]; rfl)
          have HXN := Aside0.mk (show (xs ++ [vint bs plk sbk]).length = kk + 1 by rw [List.length_append, HXL.out]; rfl)
          have hint := HINT.out
          rw [show signed 4 (num (scTake bs plk sbk 4)) = vint bs plk sbk from rfl] at hint
          have HIN2 := Aside0.mk hint
          generalize vint bs plk sbk = x at *
          clear hint HINT
          obtain ⟨wo, rfl⟩ : ∃ wo, wo = wr := ⟨_, rfl⟩
          go_wp2_with fail
          refine HIN2.out.mono ?_
          rintro e w3 ⟨rfl, hI3, hf3⟩
          have HI3 := Aside0.mk (HIk.out.fr hf3 hI3)
          have HF3 := Aside0.mk (HFr.out.trans (hf3.mono (S' := fun k => k = g ∨ k = r) (fun _ h => .inl h)))
          have HO3 := Aside0.mk (show Kd.R (Kd.int .i32) 21 w3 w.heap.size (fun _ => True) u4 xs from Kd.R_mono (Kd.R_kept (Kd.R_bound HOk.out) hf3.kept (fun k hk e => by have h1 := hk.2.1; have h2 := HGW.out; omega)) (fun _ _ => trivial))
          have hx3 := HXL.out
          have hs3 := HF3.out.size
          clear hI3 hf3 q0
          go_wp2_with ((with_reducible refine gate_builtin (b := .append) (xs := #[.tmp 28, .tmp 35]) rfl ?_); at_builtin; refine Kd.R_append (Kd.int .i32) (w0 := w3) w.heap.size rfl (.tmp 28) (.tmp 35) 40 21 (.int .i32 0) 4 rfl Try.underlying40 info_i32 rfl (by decide) (by omega) u4 xs x [.int .i32 x] (fun _ => True) (fun _ => False) rfl rfl rfl (fun _ hk => hk.elim) (fun _ _ => trivial) HO3.out (Below.refl _ _) hs3 (by omega) ?_; intro v5 w5 ho hb hg hat; clear hg hat; have HO5 := Aside0.mk ho; have HB5 := Aside0.mk hb; clear ho hb)
          have HI5 := Aside0.mk (HI3.out.low HB5.out HRW.out HOKW.out)
          have HF5 := Aside0.mk (HF3.out.low HB5.out)
          go_roundg (m - (kk + 1))
          case measure => omega
          case rel => exact ⟨kk + 1, xs ++ [x], _, _, by omega, by omega, by go_num, HXN, HFN, HO5, HI5, HF5⟩
        · have hltz : ¬ (kk : Int) < (m : Int) := by omega
          obtain rfl : kk = m := by omega
          have h := HFK.out
          rw [Nat.sub_self] at h
          have h2 := HRV.out
          rw [h] at h2
          subst h2
          clear HRV h HFK
          go_wp2_with fail
          go_returns
          exact ⟨_, rfl, HOk.out, HIk.out, HFr.out⟩

theorem rdVec_go (base : Nat) (ok : Nat → Prop) (r g : Nat) (bs : List Int) (pl : Nat) (sb rb : Bool) (w : World) (hI : IsRd w base ok r g bs pl sb rb) :
    Calls Try.prog 70 #[.pointer (some ⟨r, 0, none⟩)] w fun e w' => ∃ v0_ : Value, e = .returned v0_ ∧ Kd.R (Kd.int .i32) 21 w' w.heap.size (fun _ => True) v0_ (rdVec bs pl sb rb).1 ∧ IsRd w' base ok r g bs (rdVec bs pl sb rb).2.1 (rdVec bs pl sb rb).2.2.1 (rdVec bs pl sb rb).2.2.2 ∧ Fr (fun k => k = g ∨ k = r) w w' := by
  refine (rdVec_go0 base (fun k => ok k ∧ base ≤ k ∧ k < w.heap.size) r g bs pl sb rb w ⟨hI.1, fun h => hI.2.1 h.1, hI.2.2.1, hI.2.2.2.bound⟩ (fun k hk => hk.2.2)).mono ?_
  rintro e w' ⟨v, he, ho, hI', hf⟩
  exact ⟨v, he, ho, ⟨hI'.1, hI.2.1, hI'.2.2.1, hI'.2.2.2.mono (fun _ h => h.1)⟩, hf⟩
end

section
open Go.Shelf Go.RowKit Go.Proofs.YtngjaaldidmgjaaW.PrintWords Go.Proofs.YtngjaaldidmgjaaW.PrintLast Go.Proofs.YtngjaaldidmgjaaW.PrintMore
set_option linter.unusedVariables false
set_option linter.unusedSimpArgs false

def takeR (pl : Nat) (sb rb : Bool) (en : Int) : Int × Int := if rb = true then (0, 172) else if sb = true then (0, 7) else if en = 0 then ((pl : Int), 0) else (0, 172)

set_option maxHeartbeats 2000000 in
set_option maxRecDepth 100000 in
theorem taken_go (A : Option Addr) (c : Nat) (bs : List Int) (K : FuncId) (p : Value) (w : World) (en : Int) (pl : Nat) (sb rb : Bool) (X : World → Prop) (hr : Kd.C (Kd.int .u8) w A bs.length bs) (hc : bs.length ≤ c) (hl : bs.length < 140737488355328) (hby : ∀ x ∈ bs, 0 ≤ x ∧ x ≤ 255)
    (eg : ∀ (xs : Array Value) (W : World), Sem.run Try.prog (callFunc K xs) W = .ok (.enter K xs) W)
    (hX : ∀ w1 w2, X w1 → Below w1.heap.size w1 w2 → X w2)
    (H : ∀ (w1 : World) (r g : Nat), Below w.heap.size w w1 → IsRd w1 w.heap.size (fun k => w.heap.size ≤ k ∧ k < r) r g bs 0 false false →
      Calls Try.prog K #[.pointer (some ⟨r, 0, none⟩), p] w1 fun e w2 => e = .returned (.int .i64 en) ∧ IsRd w2 w.heap.size (fun k => w.heap.size ≤ k ∧ k < r) r g bs pl sb rb ∧ X w2) :
    Calls Try.prog 68 #[.slice A bs.length c, .func (.func K) #[] #[p]] w fun e w' => e = .returned (.tuple #[.int .i64 (takeR pl sb rb en).1, .int .i64 (takeR pl sb rb en).2]) ∧ X w' := by
  have HH := Aside0.mk H
  have HX := Aside0.mk hX
  have HRD := Aside0.mk (ScRead A c bs w hr hc hl hby)
  clear H hX hr hc hby
  obtain ⟨res, hres⟩ : ∃ res, res = takeR pl sb rb en := ⟨_, rfl⟩
  rw [← hres]
  have HRES := Aside0.mk hres
  clear hres
  go_enter Try.func68, Try.ntmps68
  go_wp2_with fail
  refine HRD.out.mono ?_
  rintro e w1 ⟨g, rfl, hI1, hb1⟩
  have HI1 := Aside0.mk hI1
  have HB1 := Aside0.mk hb1
  clear hI1 hb1 HRD
  go_upto_region 2 with (fail)
  obtain ⟨w2, hw2⟩ : ∃ w2, w2 = w1.alloc (.cells #[.pointer (some ⟨g, 0, none⟩), .bool false] 109) := ⟨_, rfl⟩
  have HB2 := Aside0.mk (show Below w.heap.size w w2 by rw [hw2]; exact below_alloc HB1.out _)
  obtain ⟨r, hrr⟩ : ∃ r, r = w1.heap.size := ⟨_, rfl⟩
  have HI2 := Aside0.mk (show IsRd w2 w.heap.size (fun k => w.heap.size ≤ k ∧ k < r) r g bs 0 false false by
    rw [hw2, hrr]
    exact ⟨heap_alloc_new w1 _, fun h => Nat.lt_irrefl _ h.2, fun e => by have := HI1.out.lt; omega, (HI1.out.bound.mono (fun k hk => hk.2)).step (fun k _ hk => Below.heap_alloc w1 _ k hk)⟩)
  rw [← hw2, ← hrr]
  have HCL := Aside0.mk (HH.out w2 r g HB2.out HI2.out)
  clear hw2 hrr HI1 HB1
  cases rb with
  | true =>
    go_wp2_with (go_at_fn K; refine HCL.out.mono ?_; rintro e w3 ⟨rfl, hI3, hX3⟩; have HI3 := Aside0.mk hI3; have HX3 := Aside0.mk hX3; have q0 : w3.cell? ⟨r, 0, none⟩ = some (.pointer (some ⟨g, 0, none⟩)) := (blk_cell hI3.1 0).trans rfl; have q1 : w3.cell? ⟨r, 1, none⟩ = some (.bool true) := (blk_cell hI3.1 1).trans rfl; clear hI3 hX3)
    go_returns
    have h := HRES.out
    unfold takeR at h
    rw [if_pos rfl] at h
    subst h
    exact ⟨rfl, HX3.out⟩
  | false =>
    go_wp2_with (go_at_fn K; refine HCL.out.mono ?_; rintro e w3 ⟨rfl, hI3, hX3⟩; have HI3 := Aside0.mk hI3; have HX3 := Aside0.mk hX3; have q0 : w3.cell? ⟨r, 0, none⟩ = some (.pointer (some ⟨g, 0, none⟩)) := (blk_cell hI3.1 0).trans rfl; have q1 : w3.cell? ⟨r, 1, none⟩ = some (.bool false) := (blk_cell hI3.1 1).trans rfl; clear hI3 hX3)
    refine (ScBadq _ _ g bs pl sb w3 HI3.out.2.2.2).mono ?_
    rintro e w4 ⟨rfl, hd4⟩
    have HX4 := Aside0.mk (HX.out _ _ HX3.out hd4.below)
    have HI4 := Aside0.mk (HI3.out.below hd4.below)
    have q0 : w4.cell? ⟨r, 0, none⟩ = some (.pointer (some ⟨g, 0, none⟩)) := (blk_cell HI4.out.1 0).trans rfl
    clear hd4 HX3 HI3 q1
    cases sb with
    | true =>
      go_wp2_with fail
      go_returns
      have h := HRES.out
      unfold takeR at h
      rw [if_neg (by decide), if_pos rfl] at h
      subst h
      exact ⟨rfl, HX4.out⟩
    | false =>
      by_cases hen : en = 0
      · subst hen
        go_wp2_with fail
        refine (ScPlace _ _ g bs pl false w4 HI4.out.2.2.2).mono ?_
        rintro e w5 ⟨rfl, hd5⟩
        have HX5 := Aside0.mk (HX.out _ _ HX4.out hd5.below)
        clear hd5
        go_wp2_with fail
        go_returns
        have h := HRES.out
        unfold takeR at h
        rw [if_neg (by decide), if_neg (by decide), if_pos rfl] at h
        subst h
        exact ⟨rfl, HX5.out⟩
      · have e1 : (en != 0) = true := by rw [bne_iff_ne]; exact hen
        have h := HRES.out
        unfold takeR at h
        rw [if_neg (by decide), if_neg (by decide), if_neg hen] at h
        subst h
        clear hen
        go_wp2_with fail
        go_returns
        exact ⟨rfl, HX4.out⟩
end

section
open Go.Shelf Go.RowKit Go.Proofs.YtngjaaldidmgjaaW.PrintWords Go.Proofs.YtngjaaldidmgjaaW.PrintLast Go.Proofs.YtngjaaldidmgjaaW.PrintMore
set_option linter.unusedVariables false
set_option linter.unusedSimpArgs false

/-- Another block is written. -/
theorem IsRd.frB {w w1 : World} {base : Nat} {ok : Nat → Prop} {r g B : Nat} {bs : List Int} {pl : Nat} {sb rb : Bool} (h : IsRd w base ok r g bs pl sb rb) (hf : Fr (· = B) w w1) (hr : r ≠ B) (hB : ¬ ok B) : IsRd w1 base ok r g bs pl sb rb :=
  ⟨(hf.block (blk_lt h.1) hr).trans h.1, h.2.1, h.2.2.1, h.2.2.2.fr hf (fun k hk e => hB (by rw [← e]; exact hk))⟩

set_option maxHeartbeats 2000000 in
set_option maxRecDepth 100000 in
theorem takeVec1 (base : Nat) (ok : Nat → Prop) (r g B : Nat) (bs : List Int) (w : World) (hI : IsRd w base ok r g bs 0 false false) (hb : w.heap[B]? = some (.cells #[.slice none 0 0] 40 (0, 0))) (hrB : r ≠ B) (hgB : g ≠ B) (hok : ¬ ok B) :
    Calls Try.prog 69 #[.pointer (some ⟨r, 0, none⟩), .pointer (some ⟨B, 0, none⟩)] w fun e w' => ∃ A' c', e = .returned (.int .i64 (checkV (rdVec bs 0 false false).1)) ∧
      IsRd w' base ok r g bs (rdVec bs 0 false false).2.1 (rdVec bs 0 false false).2.2.1 (rdVec bs 0 false false).2.2.2 ∧ w'.heap[B]? = some (.cells #[.slice A' (rdVec bs 0 false false).1.length c'] 40 (0, 0)) ∧
      Kd.R (Kd.int .i32) 21 w' w.heap.size (fun _ => True) (.slice A' (rdVec bs 0 false false).1.length c') (rdVec bs 0 false false).1 ∧ Fr (fun k => k = g ∨ k = r ∨ k = B) w w' := by
  have HV := Aside0.mk (rdVec_go base ok r g bs 0 false false w hI)
  have HBK := Aside0.mk hb
  have hBl := blk_lt hb
  clear hI hb
  generalize rdVec bs 0 false false = res at *
  obtain ⟨xs, pl, sb, rb⟩ := res
  simp only at HV ⊢
  go_enter Try.func69, Try.ntmps69
  go_wp2_with fail
  refine HV.out.mono ?_
  rintro e w1 ⟨v1, rfl, ho1, hI1, hf1⟩
  obtain ⟨A1, c1, rfl, hl1, hC1⟩ := Kd.R_reads ho1
  have hblk := hf1.blk HBK.out (fun h => by rcases h with h | h <;> omega)
  have q0 : w1.cell? ⟨B, 0, none⟩ = some (.slice none 0 0) := (blk_cell hblk 0).trans rfl
  have fz : w1.frozen? ⟨B, 0, none⟩ = false := blk_frozen hblk 0
  obtain ⟨w2, hw2⟩ : ∃ w2, w2 = w1.setCell ⟨B, 0, none⟩ (.slice A1 xs.length c1) := ⟨_, rfl⟩
  have HF12 := Aside0.mk (show Fr (· = B) w1 w2 by rw [hw2]; exact (Fr.refl (· = B) w1).setCell (p := ⟨B, 0, none⟩) (.inl rfl) _)
  have HI2 := Aside0.mk (hI1.frB HF12.out hrB hok)
  have hblk2 : w2.heap[B]? = some (.cells #[.slice A1 xs.length c1] 40 (0, 0)) := by rw [hw2]; simpa using blk_set hblk 0 (.slice A1 xs.length c1)
  have HB2 := Aside0.mk hblk2
  have HO2 := Aside0.mk (show Kd.R (Kd.int .i32) 21 w2 w.heap.size (fun _ => True) (.slice A1 xs.length c1) xs from Kd.R_mono (Kd.R_kept (Kd.R_bound ho1) HF12.out.kept (fun k hk e => by have := hk.2.1; omega)) (fun _ _ => trivial))
  have q2 : w2.cell? ⟨B, 0, none⟩ = some (.slice A1 xs.length c1) := (blk_cell hblk2 0).trans rfl
  have HFR := Aside0.mk (show Fr (fun k => k = g ∨ k = r ∨ k = B) w w2 from (hf1.mono (S' := fun k => k = g ∨ k = r ∨ k = B) (fun k h => by rcases h with h | h; exact .inl h; exact .inr (.inl h))).trans (HF12.out.mono (fun k h => .inr (.inr h))))
  have HCK := Aside0.mk (vec_Check.calls A1 c1 xs (checkV xs) w2 (Kd.R_reads' HO2.out).2.2 hl1 rfl)
  have HW2 := Aside0.mk hw2
  clear hblk hblk2 hf1 hI1 hC1 hl1 ho1 hw2 HV
  go_upto_region 2 with (fail)
  rw [← HW2.out]
  clear q0 fz HW2
  go_wp2_with fail
  refine HCK.out.mono ?_
  rintro e w3 ⟨rfl, hd3⟩
  have HI3 := Aside0.mk (HI2.out.below hd3.below)
  have HB3 := Aside0.mk (blk_below HB2.out hd3.below)
  have HO3 := Aside0.mk (Kd.R_below HO2.out hd3.below)
  have HF3 := Aside0.mk (HFR.out.below hd3.below)
  clear hd3 q2
  go_wp2_with fail
  go_returns
  exact ⟨A1, c1, rfl, HI3.out, HB3.out, HO3.out, HF3.out⟩

theorem below_step' {w w1 w2 w3 : World} {S : Nat → Prop} (h1 : Below w.heap.size w w1) (h2 : Below w1.heap.size w1 w2) (h3 : Fr S w2 w3) (hS : ∀ k, S k → w.heap.size ≤ k) : Below w.heap.size w w3 := by
  have h12 := below_step h1 h2
  exact ⟨h3.os.trans h12.os, h3.tape.trans h12.tape, h3.output.trans h12.output, Nat.le_trans h12.size h3.size, fun k hk => (h3.block (Nat.lt_of_lt_of_le hk h12.size) (fun h => by have := hS k h; omega)).trans (h12.block k hk)⟩
def bytesOk (l : List Int) : Bool := l.all fun x => decide (0 ≤ x ∧ x ≤ 255)
theorem bytesOk_iff (l : List Int) : bytesOk l = true ↔ ∀ x ∈ l, 0 ≤ x ∧ x ≤ 255 := by simp [bytesOk]
def takeVR (bs : List Int) : List Int × Int × Int :=
  if (takeR (rdVec bs 0 false false).2.1 (rdVec bs 0 false false).2.2.1 (rdVec bs 0 false false).2.2.2 (checkV (rdVec bs 0 false false).1)).2 = 0
  then ((rdVec bs 0 false false).1, (takeR (rdVec bs 0 false false).2.1 (rdVec bs 0 false false).2.2.1 (rdVec bs 0 false false).2.2.2 (checkV (rdVec bs 0 false false).1)).1, 0)
  else ([], 0, (takeR (rdVec bs 0 false false).2.1 (rdVec bs 0 false false).2.2.1 (rdVec bs 0 false false).2.2.2 (checkV (rdVec bs 0 false false).1)).2)
def codec_TakeVec.f (bs : List Int) : Option (List Int × Int × Int) := if bytesOk bs = true ∧ bs.length < 140737488355328 then some (takeVR bs) else none

set_option maxHeartbeats 2000000 in
set_option maxRecDepth 100000 in
theorem codec_TakeVec.calls (A0 : Option Addr) (c0 : Nat) (l0 : List Int) (r1 : List Int) (r2 r3 : Int) (w : World) (hr : Kd.C (Kd.int .u8) w A0 l0.length l0) (hc : l0.length ≤ c0) (h : codec_TakeVec.f l0 = some (r1, r2, r3)) :
    Calls Try.prog 27 #[.slice A0 l0.length c0] w fun e w' => ∃ v0_ : Value, e = .returned (.tuple #[v0_, .int .i64 r2, .int .i64 r3]) ∧ Kd.R (Kd.int .i32) 21 w' w.heap.size (fun _ => True) v0_ r1 ∧ Below w.heap.size w w' := by
  unfold codec_TakeVec.f at h
  split at h
  case isFalse => cases h
  case isTrue hbl =>
  obtain ⟨hby, hl⟩ := hbl
  rw [bytesOk_iff] at hby
  replace h := Option.some.inj h
  unfold takeVR at h
  obtain ⟨w1, hw1⟩ : ∃ w1, w1 = w.alloc (.cells #[.slice none 0 0] 40) := ⟨_, rfl⟩
  have HB1 := Aside0.mk (show Below w.heap.size w w1 by rw [hw1]; exact (Below.refl _ _).alloc (Nat.le_refl _) _)
  have hs1 : w1.heap.size = w.heap.size + 1 := by rw [hw1]; simp
  have hblk : w1.heap[w.heap.size]? = some (.cells #[.slice none 0 0] 40 (0, 0)) := by rw [hw1]; exact heap_alloc_new w _
  have eg : ∀ (xs : Array Value) (W : World), Sem.run Try.prog (callFunc 69 xs) W = .ok (.enter 69 xs) W := enters_of Try.func69 (by kernel_rfl) rfl
  have HT := Aside0.mk (taken_go A0 c0 l0 69 (.pointer (some ⟨w.heap.size, 0, none⟩)) w1 (checkV (rdVec l0 0 false false).1) (rdVec l0 0 false false).2.1 (rdVec l0 0 false false).2.2.1 (rdVec l0 0 false false).2.2.2
    (fun w' => ∃ A' c', w'.heap[w.heap.size]? = some (.cells #[.slice A' (rdVec l0 0 false false).1.length c'] 40 (0, 0)) ∧ Kd.R (Kd.int .i32) 21 w' w1.heap.size (fun _ => True) (.slice A' (rdVec l0 0 false false).1.length c') (rdVec l0 0 false false).1 ∧ Below w.heap.size w w')
    (Kd.C_below hr HB1.out) hc hl hby eg
    (fun a b ⟨A', c', h1, h2, h3⟩ hab => ⟨A', c', blk_below h1 hab, Kd.R_below h2 hab, below_step h3 hab⟩)
    (fun w2 r g hb2 hI2 => by
      have hg := hI2.2.2.2.ge
      have hr2 : w1.heap.size ≤ r := by
        apply Classical.byContradiction
        intro hlt
        have h5 := hI2.2.2.2.ok_g
        omega
      refine (takeVec1 _ _ r g w.heap.size l0 w2 hI2 (blk_below hblk hb2) (by omega) (by omega) (fun h => by have := h.1; omega)).mono ?_
      rintro e w3 ⟨A', c', rfl, hI3, hB3, hO3, hF3⟩
      refine ⟨rfl, hI3, A', c', hB3, Kd.R_lower hO3 hb2.size, ?_⟩
      exact below_step' HB1.out hb2 hF3 (by intro k hk; rcases hk with h | h | h <;> omega)))
  generalize rdVec l0 0 false false = res at *
  obtain ⟨xs, pl, sb, rb⟩ := res
  simp only at HT h
  generalize takeR pl sb rb (checkV xs) = te at *
  obtain ⟨tn, te⟩ := te
  simp only at HT h
  have H := Aside0.mk h
  have HW1 := Aside0.mk hw1
  have HS1 := Aside0.mk hs1
  clear hr hc hby hl h hblk hw1 hs1
  go_enter Try.func27, Try.ntmps27
  go_upto_region 2 with (fail)
  rw [← HW1.out]
  go_wp2_with fail
  refine HT.out.mono ?_
  rintro e w2 ⟨rfl, A', c', hB2, hO2, hb2⟩
  have h := H.out
  have q0 : w2.cell? ⟨w.heap.size, 0, none⟩ = some (.slice A' xs.length c') := (blk_cell hB2 0).trans rfl
  have HO2 := Aside0.mk (Kd.R_lower hO2 (show w.heap.size ≤ w1.heap.size by rw [HS1.out]; omega))
  have HB2 := Aside0.mk hb2
  clear hB2 hO2 hb2 HT H
  by_cases hz : te = 0
  · rw [if_pos hz] at h
    simp only [Prod.mk.injEq] at h
    obtain ⟨rfl, rfl, rfl⟩ := h
    subst hz
    go_wp2_with fail
    go_returns
    exact ⟨_, rfl, HO2.out, HB2.out⟩
  · rw [if_neg hz] at h
    simp only [Prod.mk.injEq] at h
    obtain ⟨rfl, rfl, rfl⟩ := h
    have e1 : (te != 0) = true := by rw [bne_iff_ne]; exact hz
    clear hz
    go_wp2_with fail
    go_returns
    exact ⟨_, rfl, Kd.R_nil _ _ _ _ _, HB2.out⟩
end

section
open Go.Shelf Go.RowKit Go.Proofs.YtngjaaldidmgjaaW.PrintWords Go.Proofs.YtngjaaldidmgjaaW.PrintLast Go.Proofs.YtngjaaldidmgjaaW.PrintMore
set_option linter.unusedVariables false
set_option linter.unusedSimpArgs false

/-- So many components out of bytes. -/
def dec4 : Nat → List Int → List Int
  | 0, _ => []
  | n + 1, l => signed 4 (num (l.take 4)) :: dec4 n (l.drop 4)
theorem vloop_ok (bs : List Int) : ∀ (n : Nat) (xs : List Int) (pl : Nat), pl + 4 * n ≤ bs.length → vloop bs n (xs, pl, false) = (xs ++ dec4 n (bs.drop pl), pl + 4 * n, false)
  | 0, xs, pl, _ => by simp [vloop, dec4]
  | n + 1, xs, pl, h => by
    have hf : fits bs.length pl false ((4 : Nat) : Int) = true := fits_yes bs pl 4 (by omega) (by omega)
    have e1 : scPl bs.length pl false 4 = pl + 4 := scPl_yes hf
    have e2 : scBad bs.length pl false 4 = false := scBad_yes hf
    have e3 : scTake bs pl false 4 = (bs.drop pl).take 4 := scTake_yes hf
    rw [vloop, e1, e2, vloop_ok bs n _ (pl + 4) (by omega), dec4, vint, e3, List.drop_drop, List.append_assoc, List.singleton_append, show pl + 4 + 4 * n = pl + 4 * (n + 1) by omega]
theorem vloop_bad (bs : List Int) : ∀ (n : Nat) (xs : List Int) (pl : Nat) (sb : Bool), pl ≤ bs.length → (sb = true ∨ bs.length < pl + 4 * n) → (vloop bs n (xs, pl, sb)).2.2 = true
  | 0, xs, pl, sb, _, h => by
    rw [vloop]
    rcases h with h | h
    · exact h
    · omega
  | n + 1, xs, pl, sb, hp, h => by
    rw [vloop]
    cases sb with
    | true =>
      have e : scBad bs.length pl true 4 = true := scBad_no (fits_bad _ _ _)
      have e1 : scPl bs.length pl true 4 = pl := scPl_no (fits_bad _ _ _)
      rw [e1]
      exact vloop_bad bs n _ _ _ hp (.inl e)
    | false =>
      have h : bs.length < pl + 4 * (n + 1) := by
        rcases h with h | h
        · cases h
        · exact h
      by_cases hf : 4 ≤ bs.length - pl
      · have hf : fits bs.length pl false ((4 : Nat) : Int) = true := fits_yes bs pl 4 (by omega) (by omega)
        have e1 : scPl bs.length pl false 4 = pl + 4 := scPl_yes hf
        rw [e1]
        exact vloop_bad bs n _ _ _ (by omega) (.inr (by omega))
      · have hf : fits bs.length pl false 4 = false := fits_no _ _ _ (by omega)
        have e1 : scPl bs.length pl false 4 = pl := scPl_no hf
        rw [e1]
        exact vloop_bad bs n _ _ _ hp (.inl (scBad_no hf))
theorem num_one (x : Int) : num [x] = x := by simp [num]
theorem rdN_at (bs : List Int) (pl : Nat) (h : pl < bs.length) : rdN bs pl false = bs.getD pl 0 := by
  have hf : fits bs.length pl false ((1 : Nat) : Int) = true := fits_yes bs pl 1 (by omega) (by omega)
  have e3 : scTake bs pl false 1 = (bs.drop pl).take 1 := scTake_yes hf
  rw [rdN, e3, drop_at bs pl 0 h, List.take_succ_cons, List.take_zero, num_one]
theorem rdVec_end (bs : List Int) (pl : Nat) (hp : pl ≤ bs.length) (h : bs.length ≤ pl) : rdVec bs pl false false = ([], pl, true, false) := by
  have hf : fits bs.length pl false 1 = false := fits_no _ _ _ (by omega)
  rw [rdVec, if_pos (scBad_no hf), scPl_no hf]
theorem rdVec_many (bs : List Int) (pl : Nat) (h : pl < bs.length) (hn : bs.getD pl 0 < 1 ∨ 4 < bs.getD pl 0) : rdVec bs pl false false = ([], pl + 1, false, true) := by
  have hf : fits bs.length pl false ((1 : Nat) : Int) = true := fits_yes bs pl 1 (by omega) (by omega)
  have e2 : scBad bs.length pl false 1 = false := scBad_yes hf
  have e1 : scPl bs.length pl false 1 = pl + 1 := scPl_yes hf
  rw [rdVec, e2, if_neg (by decide), rdN_at bs pl h, if_pos hn, e1]
theorem rdVec_in (bs : List Int) (pl : Nat) (h : pl < bs.length) (hn : ¬ (bs.getD pl 0 < 1 ∨ 4 < bs.getD pl 0)) :
    rdVec bs pl false false = ((vloop bs (bs.getD pl 0).toNat ([], pl + 1, false)).1, (vloop bs (bs.getD pl 0).toNat ([], pl + 1, false)).2.1, (vloop bs (bs.getD pl 0).toNat ([], pl + 1, false)).2.2, false) := by
  have hf : fits bs.length pl false ((1 : Nat) : Int) = true := fits_yes bs pl 1 (by omega) (by omega)
  have e2 : scBad bs.length pl false 1 = false := scBad_yes hf
  have e1 : scPl bs.length pl false 1 = pl + 1 := scPl_yes hf
  rw [rdVec, e2, if_neg (by decide), rdN_at bs pl h, if_neg hn, e1]
/-- What is taken from a place on, where a check tells whether it may be. -/
def tvg (bs : List Int) (pl : Nat) (ck : List Int → Bool) : List Int × Int × Int :=
  if bs.length ≤ pl then ([], 0, 7)
  else if bs.getD pl 0 < 1 ∨ 4 < bs.getD pl 0 then ([], 0, 172)
  else if bs.length < pl + 1 + 4 * (bs.getD pl 0).toNat then ([], 0, 7)
  else if ck (dec4 (bs.getD pl 0).toNat (bs.drop (pl + 1))) = true then (dec4 (bs.getD pl 0).toNat (bs.drop (pl + 1)), ((pl + 1 + 4 * (bs.getD pl 0).toNat : Nat) : Int), 0)
  else ([], 0, 172)
def outR (t : Int × Int) (xs : List Int) : List Int × Int × Int := if t.2 = 0 then (xs, t.1, 0) else ([], 0, t.2)
theorem outR_bad (r : List Int × Nat × Bool × Bool) (en : List Int → Int) (h : r.2.2.2 = true) : outR (takeR r.2.1 r.2.2.1 r.2.2.2 (en r.1)) r.1 = ([], 0, 172) := by
  simp [outR, takeR, h]
theorem outR_short (r : List Int × Nat × Bool × Bool) (en : List Int → Int) (h : r.2.2.2 = false) (h2 : r.2.2.1 = true) : outR (takeR r.2.1 r.2.2.1 r.2.2.2 (en r.1)) r.1 = ([], 0, 7) := by
  simp [outR, takeR, h, h2]
theorem outR_ok (pl : Nat) (xs : List Int) (e : Int) (h : e = 0) : outR (takeR pl false false e) xs = (xs, (pl : Int), 0) := by
  simp [outR, takeR, h]
theorem outR_no (pl : Nat) (xs : List Int) (e : Int) (h : e ≠ 0) : outR (takeR pl false false e) xs = ([], 0, 172) := by
  simp [outR, takeR, h]
theorem tvg_is (bs : List Int) (pl : Nat) (hp : pl ≤ bs.length) (ck : List Int → Bool) (en : List Int → Int) (he : ∀ v, en v = 0 ↔ ck v = true) :
    outR (takeR (rdVec bs pl false false).2.1 (rdVec bs pl false false).2.2.1 (rdVec bs pl false false).2.2.2 (en (rdVec bs pl false false).1)) (rdVec bs pl false false).1 = tvg bs pl ck := by
  unfold tvg
  by_cases h1 : bs.length ≤ pl
  · rw [if_pos h1, rdVec_end bs pl hp h1]; exact outR_short ([], pl, true, false) en rfl rfl
  · rw [if_neg h1]
    by_cases h2 : bs.getD pl 0 < 1 ∨ 4 < bs.getD pl 0
    · rw [if_pos h2, rdVec_many bs pl (by omega) h2]; exact outR_bad ([], pl + 1, false, true) en rfl
    · rw [if_neg h2]
      have e := rdVec_in bs pl (by omega) h2
      generalize (bs.getD pl 0).toNat = n at *
      by_cases h3 : bs.length < pl + 1 + 4 * n
      · rw [if_pos h3, e]
        exact outR_short ((vloop bs n ([], pl + 1, false)).1, (vloop bs n ([], pl + 1, false)).2.1, (vloop bs n ([], pl + 1, false)).2.2, false) en rfl (vloop_bad bs n _ _ _ (by omega) (.inr h3))
      · rw [if_neg h3, e, vloop_ok bs n [] (pl + 1) (by omega), List.nil_append]
        cases hc : ck (dec4 n (bs.drop (pl + 1))) with
        | true =>
          rw [if_pos rfl]
          exact outR_ok (pl + 1 + 4 * n) (dec4 n (bs.drop (pl + 1))) _ ((he _).2 hc)
        | false =>
          rw [if_neg (by decide)]
          exact outR_no (pl + 1 + 4 * n) (dec4 n (bs.drop (pl + 1))) _ (fun h => by rw [(he _).1 h] at hc; cases hc)
theorem tvg_range (bs : List Int) (pl : Nat) (ck : List Int → Bool) (h : (tvg bs pl ck).2.2 = 0) : bs.length > pl ∧ (1 ≤ bs.getD pl 0 ∧ bs.getD pl 0 ≤ 4) ∧ pl + 1 + 4 * (bs.getD pl 0).toNat ≤ bs.length ∧ ck (dec4 (bs.getD pl 0).toNat (bs.drop (pl + 1))) = true ∧ tvg bs pl ck = (dec4 (bs.getD pl 0).toNat (bs.drop (pl + 1)), ((pl + 1 + 4 * (bs.getD pl 0).toNat : Nat) : Int), 0) := by
  unfold tvg at h ⊢
  by_cases h1 : bs.length ≤ pl
  · rw [if_pos h1] at h; cases h
  · rw [if_neg h1] at h ⊢
    by_cases h2 : bs.getD pl 0 < 1 ∨ 4 < bs.getD pl 0
    · rw [if_pos h2] at h; cases h
    · rw [if_neg h2] at h ⊢
      by_cases h3 : bs.length < pl + 1 + 4 * (bs.getD pl 0).toNat
      · rw [if_pos h3] at h; cases h
      · rw [if_neg h3] at h ⊢
        cases hc : ck (dec4 (bs.getD pl 0).toNat (bs.drop (pl + 1))) with
        | true => rw [if_pos rfl]; exact ⟨by omega, by omega, by omega, rfl, rfl⟩
        | false => rw [hc, if_neg (by decide)] at h; cases h
theorem byteAt_add (j : Nat) (hj : j < 4) (y k : Int) : byteAt 4 (y + 4294967296 * k) j = byteAt 4 y j := by
  unfold byteAt
  rcases (show j = 0 ∨ j = 1 ∨ j = 2 ∨ j = 3 by omega) with rfl | rfl | rfl | rfl
  · rw [show 8 * (4 - 1 - 0) = 24 from rfl, show (2 : Int) ^ 24 = 16777216 by decide]; omega
  · rw [show 8 * (4 - 1 - 1) = 16 from rfl, show (2 : Int) ^ 16 = 65536 by decide]; omega
  · rw [show 8 * (4 - 1 - 2) = 8 from rfl, show (2 : Int) ^ 8 = 256 by decide]; omega
  · rw [show 8 * (4 - 1 - 3) = 0 from rfl, show (2 : Int) ^ 0 = 1 by decide]; omega
theorem put4_add (y k : Int) : putBytes 4 (y + 4294967296 * k) = putBytes 4 y := by
  unfold putBytes
  rw [if_pos (by decide), if_pos (by decide)]
  unfold putFrom
  refine List.map_congr_left fun j hj => ?_
  obtain ⟨q, h1, h2⟩ := List.mem_range'.1 hj
  exact byteAt_add j (by simp at h1; omega) y k
end

end Go.Proofs.Ytngjaaldidmgjaa.G
