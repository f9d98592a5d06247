/- Steps of a mark lead back: unlike bytes, or unlike marks, come to unlike marks: plain. -/
import Derived.Test.YtanijhlpneiebaaPl
import Derived.Test.YtanijhlpneiebaaS1
import Derived.Test.YtanijhlpneiebaaG8
import Derived.Laws.Bits64
namespace Go.Proofs.Ytanijhlpneiebaa.G
open Go.RowKit Go.Proofs.YtanijhlpneiebaaW.PrintWords Go.Proofs.YtanijhlpneiebaaW.PrintLast Go.Proofs.YtanijhlpneiebaaW.PrintMore
set_option linter.unusedVariables false
set_option linter.unusedSimpArgs false

def inM (m : Int) : Prop := 0 ≤ m ∧ m < 18446744073709551616
theorem wrap_inM (x : Int) : inM (IntKind.u64.wrap x) := by unfold inM; rw [IntKind.wrap_u64]; omega
theorem xor_inM (m c : Int) (hm : inM m) (hc : inM c) : inM (bits .xor .u64 m c) := by
  obtain ⟨a, rfl⟩ := Int.eq_ofNat_of_zero_le hm.1
  obtain ⟨b, rfl⟩ := Int.eq_ofNat_of_zero_le hc.1
  have h1 := hm.2
  have h2 := hc.2
  rw [bits_xor_u64_nat a b (by omega) (by omega)]
  have hlt : a ^^^ b < 2 ^ 64 := Nat.xor_lt_two_pow (by omega) (by omega)
  simp only [Nat.reducePow] at hlt
  exact ⟨by omega, by omega⟩
theorem xor_xor (m c : Int) (hm : inM m) (hc : inM c) : bits .xor .u64 (bits .xor .u64 m c) c = m := by
  have hx := xor_inM m c hm hc
  obtain ⟨a, rfl⟩ := Int.eq_ofNat_of_zero_le hm.1
  obtain ⟨b, rfl⟩ := Int.eq_ofNat_of_zero_le hc.1
  have h1 := hm.2
  have h2 := hc.2
  rw [bits_xor_u64_nat a b (by omega) (by omega)] at hx ⊢
  have h3 := hx.2
  rw [bits_xor_u64_nat _ b (by omega) (by omega), Nat.xor_assoc, Nat.xor_self, Nat.xor_zero]
theorem xor_inj (m c d : Int) (hm : inM m) (hc : inM c) (hd : inM d) (h : bits .xor .u64 m c = bits .xor .u64 m d) : c = d := by
  obtain ⟨a, rfl⟩ := Int.eq_ofNat_of_zero_le hm.1
  obtain ⟨b, rfl⟩ := Int.eq_ofNat_of_zero_le hc.1
  obtain ⟨e, rfl⟩ := Int.eq_ofNat_of_zero_le hd.1
  have h1 := hm.2
  have h2 := hc.2
  have h3 := hd.2
  rw [bits_xor_u64_nat a b (by omega) (by omega), bits_xor_u64_nat a e (by omega) (by omega)] at h
  have h4 : a ^^^ b = a ^^^ e := by omega
  have h5 : a ^^^ (a ^^^ b) = a ^^^ (a ^^^ e) := by rw [h4]
  rw [← Nat.xor_assoc, ← Nat.xor_assoc, Nat.xor_self, Nat.zero_xor, Nat.zero_xor] at h5
  rw [h5]
theorem mul_back (x : Int) (hx : inM x) : IntKind.u64.wrap (IntKind.u64.wrap (x * 1099511628211) * 14886173955864302971) = x := by
  obtain ⟨h0, h1⟩ := hx
  rw [IntKind.wrap_u64, IntKind.wrap_u64]
  omega
theorem back_mul (x : Int) (hx : inM x) : IntKind.u64.wrap (IntKind.u64.wrap (x * 14886173955864302971) * 1099511628211) = x := by
  obtain ⟨h0, h1⟩ := hx
  rw [IntKind.wrap_u64, IntKind.wrap_u64]
  omega
theorem byte_inM {c : Int} (h : 0 ≤ c ∧ c ≤ 255) : inM c := ⟨h.1, by omega⟩
theorem onStep_inM (m c : Int) : inM (onStep m c) := wrap_inM _
theorem backStep_inM (m c : Int) (hc : inM c) : inM (backStep m c) := xor_inM _ _ (wrap_inM _) hc
theorem on_back (m c : Int) (hm : inM m) (hc : inM c) : backStep (onStep m c) c = m := by
  unfold backStep onStep
  rw [mul_back _ (xor_inM m c hm hc), xor_xor m c hm hc]
theorem back_on (m c : Int) (hm : inM m) (hc : inM c) : onStep (backStep m c) c = m := by
  unfold backStep onStep
  rw [xor_xor _ c (wrap_inM _) hc, back_mul m hm]
theorem onStep_inj_m (m n c : Int) (hm : inM m) (hn : inM n) (hc : inM c) (h : onStep m c = onStep n c) : m = n := by
  rw [← on_back m c hm hc, h, on_back n c hn hc]
theorem onStep_inj_c (m c d : Int) (hm : inM m) (hc : inM c) (hd : inM d) (h : onStep m c = onStep m d) : c = d := by
  unfold onStep at h
  refine xor_inj m c d hm hc hd ?_
  rw [← mul_back _ (xor_inM m c hm hc), h, mul_back _ (xor_inM m d hm hd)]
theorem fold_inM : ∀ (l : List Int) (m : Int), inM m → inM (l.foldl onStep m)
  | [], m, h => h
  | c :: l, m, _ => fold_inM l (onStep m c) (onStep_inM m c)
theorem fold_inj : ∀ (l : List Int) (m n : Int), (∀ x ∈ l, 0 ≤ x ∧ x ≤ 255) → inM m → inM n → l.foldl onStep m = l.foldl onStep n → m = n
  | [], m, n, _, _, _, h => h
  | c :: l, m, n, hb, hm, hn, h =>
    onStep_inj_m m n c hm hn (byte_inM (hb c (by simp))) (fold_inj l (onStep m c) (onStep n c) (fun x hx => hb x (by simp [hx])) (onStep_inM m c) (onStep_inM n c) h)
/-- One byte that is another one: another mark. -/
theorem fold_set : ∀ (l : List Int) (q : Nat) (u m : Int), (∀ x ∈ l, 0 ≤ x ∧ x ≤ 255) → (0 ≤ u ∧ u ≤ 255) → inM m → q < l.length → u ≠ l.getD q 0 → l.foldl onStep m ≠ (l.set q u).foldl onStep m
  | [], q, u, m, _, _, _, hq, _ => by simp at hq
  | c :: l, 0, u, m, hb, hu, hm, _, hne => fun h => by
    have h1 := fold_inj l (onStep m c) (onStep m u) (fun x hx => hb x (by simp [hx])) (onStep_inM m c) (onStep_inM m u) h
    have h2 := onStep_inj_c m c u hm (byte_inM (hb c (by simp))) (byte_inM hu) h1
    simp only [List.getD_cons_zero] at hne
    exact hne h2.symm
  | c :: l, q + 1, u, m, hb, hu, hm, hq, hne => by
    have := fold_set l q u (onStep m c) (fun x hx => hb x (by simp [hx])) hu (onStep_inM m c) (by simpa using hq) (by simpa using hne)
    simpa using this
theorem fold_back : ∀ (l : List Int) (m : Int), (∀ x ∈ l, 0 ≤ x ∧ x ≤ 255) → inM m → backAll (l.foldl onStep m) l = m
  | [], m, _, _ => rfl
  | c :: l, m, hb, hm => by
    have := fold_back l (onStep m c) (fun x hx => hb x (by simp [hx])) (onStep_inM m c)
    unfold backAll at this ⊢
    rw [List.reverse_cons, List.foldl_append]
    show backStep (List.foldl backStep (List.foldl onStep (onStep m c) l) l.reverse) c = m
    rw [this]
    exact on_back m c hm (byte_inM (hb c (by simp)))
theorem back_inM : ∀ (l : List Int) (m : Int), (∀ x ∈ l, 0 ≤ x ∧ x ≤ 255) → inM m → inM (l.foldl backStep m)
  | [], m, _, h => h
  | c :: l, m, hb, _ => back_inM l (backStep m c) (fun x hx => hb x (by simp [hx])) (backStep_inM m c (byte_inM (hb c (by simp))))
theorem backAll_inM (l : List Int) (m : Int) (hb : ∀ x ∈ l, 0 ≤ x ∧ x ≤ 255) (hm : inM m) : inM (backAll m l) := back_inM l.reverse m (fun x hx => hb x (List.mem_reverse.1 hx)) hm
theorem back_fold : ∀ (l : List Int) (m : Int), (∀ x ∈ l, 0 ≤ x ∧ x ≤ 255) → inM m → l.foldl onStep (backAll m l) = m
  | [], m, _, _ => rfl
  | c :: l, m, hb, hm => by
    have hl : ∀ x ∈ l, 0 ≤ x ∧ x ≤ 255 := fun x hx => hb x (by simp [hx])
    have := back_fold l m hl hm
    have hi := backAll_inM l m hl hm
    unfold backAll at this hi ⊢
    rw [List.reverse_cons, List.foldl_append]
    show List.foldl onStep (onStep (backStep (List.foldl backStep m l.reverse) c) c) l = m
    rw [back_on _ c hi (byte_inM (hb c (by simp)))]
    exact this

theorem xor8_tab : ∀ b c : Fin 256, 0 ≤ bits .xor .u8 (b.val : Int) (c.val : Int) ∧ bits .xor .u8 (b.val : Int) (c.val : Int) ≤ 255 ∧ (c.val ≠ 0 → bits .xor .u8 (b.val : Int) (c.val : Int) ≠ b.val) := by
  intro b c
  have e : bits .xor .u8 (b.val : Int) (c.val : Int) = ((b.val ^^^ c.val : Nat) : Int) := by
    have h1 : (BitVec.ofInt 8 (b.val : Int)).toNat = b.val := by
      rw [BitVec.ofInt_natCast, BitVec.toNat_ofNat]; exact Nat.mod_eq_of_lt (by omega)
    have h2 : (BitVec.ofInt 8 (c.val : Int)).toNat = c.val := by
      rw [BitVec.ofInt_natCast, BitVec.toNat_ofNat]; exact Nat.mod_eq_of_lt (by omega)
    have hx : b.val ^^^ c.val < 2 ^ 8 := Nat.xor_lt_two_pow (by omega) (by omega)
    show IntKind.u8.wrap ((BitVec.ofInt 8 (b.val : Int) ^^^ BitVec.ofInt 8 (c.val : Int)).toNat : Int) = _
    rw [BitVec.toNat_xor, h1, h2]
    simp [IntKind.wrap, IntKind.bits, IntKind.signed]
    omega
  have hx : b.val ^^^ c.val < 2 ^ 8 := Nat.xor_lt_two_pow (by omega) (by omega)
  rw [e]
  refine ⟨by omega, by omega, fun hc h => hc ?_⟩
  have h4 : b.val ^^^ c.val = b.val := by omega
  have h5 : b.val ^^^ (b.val ^^^ c.val) = b.val ^^^ b.val := by rw [h4]
  rw [← Nat.xor_assoc, Nat.xor_self, Nat.zero_xor] at h5
  exact h5
theorem xor8 (b c : Int) (hb : 0 ≤ b ∧ b ≤ 255) (hc : 0 ≤ c ∧ c ≤ 255) : (0 ≤ bits .xor .u8 b c ∧ bits .xor .u8 b c ≤ 255) ∧ (c ≠ 0 → bits .xor .u8 b c ≠ b) := by
  have := xor8_tab ⟨b.toNat, by omega⟩ ⟨c.toNat, by omega⟩
  simp only [Int.toNat_of_nonneg hb.1, Int.toNat_of_nonneg hc.1] at this
  exact ⟨⟨this.1, this.2.1⟩, fun h => this.2.2 (by omega)⟩
theorem set_bytes (l : List Int) (q : Nat) (u : Int) (hb : ∀ x ∈ l, 0 ≤ x ∧ x ≤ 255) (hu : 0 ≤ u ∧ u ≤ 255) : ∀ x ∈ l.set q u, 0 ≤ x ∧ x ≤ 255 := by
  intro x hx
  rcases List.mem_or_eq_of_mem_set hx with h | h
  · exact hb x h
  · rw [h]; exact hu

/-- A mark, laid behind bytes, is read as the mark. -/
theorem ofB_inM (l : List Int) : inM (ofB l) := fold_inM l _ ⟨by omega, by omega⟩
theorem open_seal (l : List Int) : openB (l ++ putBytes 8 (ofB l)) = (l, 0) := by
  have hp : (putBytes 8 (ofB l)).length = 8 := by rw [putBytes_length]; rfl
  have hm := ofB_inM l
  unfold openB
  rw [if_neg (by simp [hp]), show (l ++ putBytes 8 (ofB l)).length - 8 = l.length by simp [hp], List.drop_left, List.take_left, num_put 8 _ hm.1 rfl]
  rw [if_pos (Int.emod_eq_of_lt hm.1 (by have := hm.2; simpa using this))]
theorem set_getD (l : List Int) (q : Nat) (u : Int) (hq : q < l.length) : (l.set q u).getD q 0 = u := by simp [List.getD, hq]
theorem open_turned (l : List Int) (q : Nat) (u : Int) (hb : ∀ x ∈ l, 0 ≤ x ∧ x ≤ 255) (hu : 0 ≤ u ∧ u ≤ 255) (hq : q < l.length + 8) (hne : u ≠ (l ++ putBytes 8 (ofB l)).getD q 0) : openB ((l ++ putBytes 8 (ofB l)).set q u) = ([], 130) := by
  have hp : (putBytes 8 (ofB l)).length = 8 := by rw [putBytes_length]; rfl
  have hm := ofB_inM l
  have hnum : num (putBytes 8 (ofB l)) = ofB l := by rw [num_put 8 _ hm.1 rfl]; exact Int.emod_eq_of_lt hm.1 (by have := hm.2; simpa using this)
  have hpr := putBytes_range 8 (ofB l)
  generalize putBytes 8 (ofB l) = p at *
  unfold openB
  rw [if_neg (by simp [hp]), show ((l ++ p).set q u).length - 8 = l.length by simp [hp]]
  by_cases hql : q < l.length
  · rw [List.set_append_left _ _ hql, show (l.set q u ++ p).drop l.length = p from by rw [show l.length = (l.set q u).length by simp, List.drop_left], show (l.set q u ++ p).take l.length = l.set q u from by rw [show l.length = (l.set q u).length by simp, List.take_left], if_neg]
    rw [hnum]
    refine fold_set l q u _ hb hu ⟨by omega, by omega⟩ hql ?_
    simpa [List.getD, List.getElem?_append_left hql] using hne
  · rw [List.set_append_right _ _ (by omega), List.drop_left, List.take_left, if_neg]
    intro h
    rw [← hnum] at h
    have hlen : (p.set (q - l.length) u).length = (8 : Int).toNat := by simp [hp]
    have h1 := put_num 8 (p.set (q - l.length) u) rfl hlen (set_bytes p _ u hpr hu)
    have h2 := put_num 8 p rfl (by simpa using hp) hpr
    rw [h, h2] at h1
    have h3 := set_getD p (q - l.length) u (by omega)
    rw [← h1] at h3
    refine hne ?_
    rw [← h3]
    simp [List.getD, List.getElem?_append_right (show l.length ≤ q by omega)]

end Go.Proofs.Ytanijhlpneiebaa.G
