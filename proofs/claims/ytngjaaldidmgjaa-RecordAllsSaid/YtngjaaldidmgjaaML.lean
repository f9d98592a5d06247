/- Plain: what the documents' high and Vec answer. Contract of quiverref24.Bytes. Contracts of quiverref24.SameAll (of the same records) and quiverref24.All. Plain: what the document's Parse asks of bytes, against parseGo. Contract of quiverref24.Parse. quiverlaw24.RecordAlls answers true. -/
import Derived.Test.YtngjaaldidmgjaaMK
import Derived.Test.YtngjaaldidmgjaaMI
import Derived.BigQuiet
namespace Go.Proofs.Ytngjaaldidmgjaa.G

section
open Go.Shelf Go.RowKit Go.Proofs.YtngjaaldidmgjaaW.PrintWords Go.Proofs.YtngjaaldidmgjaaW.PrintLast Go.Proofs.YtngjaaldidmgjaaW.PrintMore
set_option linter.unusedVariables false
set_option linter.unusedSimpArgs false

theorem high24_l0 (s : Nat) (hs : s ≤ 8) (x : Int) : ∀ (i k : Nat) (acc : List Int), i ≤ s → i < k → acc.length + i ≤ 1000 → P.quiverref24_high.l0 k x acc ((i : Int) - 1) = some (acc ++ putFrom s x (s - i))
  | 0, k + 1, acc, hi, _, hl => by
    rw [P.quiverref24_high.l0, if_neg (by omega), Nat.sub_zero, putFrom_end, List.append_nil]
  | i + 1, k + 1, acc, hi, hk, hl => by
    have e0 : ((i + 1 : Nat) : Int) - 1 = (i : Int) := by omega
    have e1 : wrap64 (8 * (i : Int)) = ((8 * i : Nat) : Int) := by rw [w64 (by omega) (by omega)]; omega
    have e3 : shr .u64 x ((8 * i : Nat) : Int) % 256 = byteAt s x (s - (i + 1)) := by
      unfold shr byteAt
      rw [Int.toNat_natCast, Nat.min_eq_left (show 8 * i ≤ IntKind.u64.bits from by have : IntKind.u64.bits = 64 := rfl; omega), show s - 1 - (s - (i + 1)) = i by omega]
    rw [e0, P.quiverref24_high.l0, if_pos (by omega), e1, if_pos (by omega), if_pos (by omega), e3, w64 (by omega) (by omega),
      high24_l0 s hs x i k (acc ++ [byteAt s x (s - (i + 1))]) (by omega) (by omega) (by rw [List.length_append, List.length_singleton]; omega), List.append_assoc, List.singleton_append, show s - i = s - (i + 1) + 1 by omega, ← putFrom_step s x (s - (i + 1)) (by omega)]
theorem high24_is (s : Nat) (h1 : 1 ≤ s) (hs : s ≤ 8) (x : Int) (k : Nat) (hk : 9 ≤ k) : P.quiverref24_high.f k x (s : Int) = some (putBytes s x) := by
  unfold P.quiverref24_high.f putBytes
  rw [w64 (by omega) (by omega), high24_l0 s hs x s k [] (Nat.le_refl _) (by omega) (by simp; omega), List.nil_append, Nat.sub_self, if_pos (isSize_iff.2 (by omega)), Int.toNat_natCast]
theorem high_l0 (s : Nat) (hs : s ≤ 8) (x : Int) : ∀ (i k : Nat) (acc : List Int), i ≤ s → i < k → acc.length + i ≤ 1000 → P.quiverref07_high.l0 k x acc ((i : Int) - 1) = some (acc ++ putFrom s x (s - i))
  | 0, k + 1, acc, hi, _, hl => by
    rw [P.quiverref07_high.l0, if_neg (by omega), Nat.sub_zero, putFrom_end, List.append_nil]
  | i + 1, k + 1, acc, hi, hk, hl => by
    have e0 : ((i + 1 : Nat) : Int) - 1 = (i : Int) := by omega
    have e1 : wrap64 (8 * (i : Int)) = ((8 * i : Nat) : Int) := by rw [w64 (by omega) (by omega)]; omega
    have e3 : shr .u64 x ((8 * i : Nat) : Int) % 256 = byteAt s x (s - (i + 1)) := by
      unfold shr byteAt
      rw [Int.toNat_natCast, Nat.min_eq_left (show 8 * i ≤ IntKind.u64.bits from by have : IntKind.u64.bits = 64 := rfl; omega), show s - 1 - (s - (i + 1)) = i by omega]
    rw [e0, P.quiverref07_high.l0, if_pos (by omega), e1, if_pos (by omega), if_pos (by omega), e3, w64 (by omega) (by omega),
      high_l0 s hs x i k (acc ++ [byteAt s x (s - (i + 1))]) (by omega) (by omega) (by rw [List.length_append, List.length_singleton]; omega), List.append_assoc, List.singleton_append, show s - i = s - (i + 1) + 1 by omega, ← putFrom_step s x (s - (i + 1)) (by omega)]
theorem high_is (s : Nat) (h1 : 1 ≤ s) (hs : s ≤ 8) (x : Int) (k : Nat) (hk : 9 ≤ k) : P.quiverref07_high.f k x (s : Int) = some (putBytes s x) := by
  unfold P.quiverref07_high.f putBytes
  rw [w64 (by omega) (by omega), high_l0 s hs x s k [] (Nat.le_refl _) (by omega) (by simp; omega), List.nil_append, Nat.sub_self, if_pos (isSize_iff.2 (by omega)), Int.toNat_natCast]
theorem numB_high (x : Int) (k : Nat) (hk : 9 ≤ k) : P.quiverref07_high.f k (x % 4294967296) 4 = some (numB x) := by
  rw [show (4 : Int) = ((4 : Nat) : Int) from rfl, high_is 4 (by omega) (by omega) _ k hk]
  unfold numB
  rw [IntKind.wrap_u64]
  have h := put4_add (x % 4294967296) (x % 18446744073709551616 / 4294967296)
  rw [show x % 4294967296 + 4294967296 * (x % 18446744073709551616 / 4294967296) = x % 18446744073709551616 by omega] at h
  exact congrArg some h.symm
theorem rvec_l0 (v : List Int) (hv : v.length ≤ 1000) : ∀ (d i k : Nat) (acc : List Int), i + d = v.length → d + 12 ≤ k → acc.length + 4 * d ≤ 10000 → P.quiverref07_Vec.l0 k v acc (i : Int) = some (acc ++ vecT (v.drop i))
  | 0, i, k + 1, acc, hi, _, hl => by
    rw [P.quiverref07_Vec.l0, if_neg (by omega), List.drop_eq_nil_of_le (by omega)]
    simp [vecT]
  | d + 1, i, k + 1, acc, hi, hk, hl => by
    rw [P.quiverref07_Vec.l0, if_pos (by omega), if_pos (by omega), rd_nat, numB_high _ k (by omega), Option.bind_some, if_pos (by rw [numB_len]; omega), w64 (by omega) (by omega), show ((i : Int) + 1) = ((i + 1 : Nat) : Int) by omega,
      rvec_l0 v hv d (i + 1) k _ (by omega) (by omega) (by rw [List.length_append, numB_len]; omega), drop_at v i 0 (by omega), List.append_assoc]
    unfold vecT
    rw [List.map_cons, List.flatten_cons]
theorem rvec_is (v : List Int) (hv : v.length ≤ 1000) (k : Nat) (hk : v.length + 12 ≤ k) : P.quiverref07_Vec.f k v = some (vecB v) := by
  unfold P.quiverref07_Vec.f
  rw [show (0 : Int) = ((0 : Nat) : Int) from rfl, rvec_l0 v hv v.length 0 k _ (by omega) hk (by simp; omega), List.drop_zero, vecB]
  rfl
end

section
open Go.Shelf Go.RowKit Go.Proofs.YtngjaaldidmgjaaW.PrintWords Go.Proofs.YtngjaaldidmgjaaW.PrintLast Go.Proofs.YtngjaaldidmgjaaW.PrintMore
set_option linter.unusedVariables false
set_option linter.unusedSimpArgs false

theorem one_C {w : World} {g : Nat} {x : Int} (h : w.heap[g]? = some (.cells #[.int .u8 x] 5 (0, 0))) : Kd.C (Kd.int .u8) w (some ⟨g, 0, none⟩) 1 [x] := by
  refine ⟨rfl, by decide, fun _ => ⟨_, rfl, fun j p hj => ?_⟩⟩
  match j, hj with
  | 0, hj =>
    obtain rfl := Option.some.inj hj
    refine ⟨[.int .u8 x], rfl, rfl, fun i u hu => ?_⟩
    match i, hu with
    | 0, hu =>
      obtain rfl := Option.some.inj hu
      exact (blk_cell h 0).trans rfl
theorem own_less {w : World} {base : Nat} {e : Nat} {v : Value} {xs : List Int} (h : Kd.R (Kd.int .u8) e w base (fun _ => True) v xs) {k : Nat} (hk : w.heap.size ≤ k) : some k ≠ v.ownBlock := fun e => by
  have h1 := ((Kd.R_bound h).1 _ e.symm).2.2.1
  omega
theorem high8 (x : Int) (W : World) : Calls Try.prog 101 #[.int .u64 x, .int .i64 8] W fun e w' => ∃ v0_ : Value, e = .returned (v0_) ∧ Kd.R (Kd.int .u8) 5 w' W.heap.size (fun _ => True) v0_ (putBytes 8 x) ∧ Below W.heap.size W w' :=
  P.quiverref24_high.calls 9 x 8 (putBytes 8 x) W (high24_is 8 (by omega) (by omega) x 9 (by omega))

set_option maxHeartbeats 4000000 in
set_option maxRecDepth 100000 in
theorem refBytes (r : Rc) (A5 : Option Addr) (c5 : Nat) (A6 : Option Addr) (c6 : Nat) (W : World) (h5 : Kd.C kW W A5 r.f5.length r.f5) (h6 : Kd.C kV W A6 r.f6.length r.f6) (hok : recOk r = true) :
    Calls Try.prog 52 #[.agg (rcL r A5 c5 A6 c6)] W fun e w' => ∃ v, e = .returned v ∧ Kd.R (Kd.int .u8) 5 w' W.heap.size (fun _ => True) v (recBs r) ∧ Below W.heap.size W w' := by
  obtain ⟨a0, a1, a2, a3, a4, l5, l6⟩ := r
  simp only at h5 h6
  have HKINDS := Aside0.mk (okKinds hok)
  clear hok
  obtain ⟨w1, hw1⟩ : ∃ w1, w1 = W.alloc (.cells (rcL ⟨a0, a1, a2, a3, a4, l5, l6⟩ A5 c5 A6 c6) 28) := ⟨_, rfl⟩
  have hB1 : Below W.heap.size W w1 := by rw [hw1]; exact below_alloc (Below.refl _ _) _
  have HX1 := Aside0.mk (show w1.heap[W.heap.size]? = some (.cells (rcL ⟨a0, a1, a2, a3, a4, l5, l6⟩ A5 c5 A6 c6) 28 (0, 0)) by rw [hw1]; exact heap_alloc_new W _)
  have HC5 := Aside0.mk (Kd.C_below h5 hB1)
  have HC6 := Aside0.mk (Kd.C_below h6 hB1)
  have hm5 := Kd.C_max h5
  have hm6 := Kd.C_max h6
  have HB1 := Aside0.mk hB1
  have HW1 := Aside0.mk hw1
  have HRB := Aside0.mk (show recBs ⟨a0, a1, a2, a3, a4, l5, l6⟩ = recB a0 a1 a2 a3 a4 l5 l6 from rfl)
  rw [HRB.out]
  obtain ⟨b0, hb0⟩ : ∃ b0, b0 = [a0 % 256] := ⟨_, rfl⟩
  have hb0l : b0.length ≤ 1 := by rw [hb0]; exact Nat.le_refl 1
  have HB0 := Aside0.mk hb0
  have q0 : w1.cell? ⟨W.heap.size, 0, none⟩ = some (.int .i64 a0) := (blk_cell HX1.out 0).trans rfl
  clear hw1 hB1 h5 h6 hb0 HRB
  go_enter Try.func52, Try.ntmps52
  go_upto_region 1 with (fail)
  rw [HW1.out.symm]
  go_upto_region 4 with (first | ((with_reducible refine gate_dst (N := 11) rfl ?_); refine Kd.R_lit (Kd.int .u8) (w0 := w1) w1.heap.size 5 ?hg (N := 11) ?hd (xs := ([a0 % 256] : List Int)) (inner := [.int .u8 (a0 % 256)]) (ok := fun _ => True) (okp := fun _ => True) ?hr ?hp (fun _ hk => hk) trivial (Below.refl _ _) (Nat.le_refl _) (by simp) ?_; (case hd => rfl); (case hg => rfl); (case hr => first | (go_simp; done) | (go_simp; rfl)); (case hp => exact (Reps.one (show Kd.M (Kd.int .u8) _ _ _ (a0 % 256) [.int .u8 (a0 % 256)] from rfl) (Reps.none _ _))); intro v3 w2 ho hb hg hnew; clear hg hnew; rw [← HB0.out] at ho; have HO2 := Aside0.mk ho; have HB2 := Aside0.mk hb; have q0b : w2.cell? ⟨W.heap.size, 0, none⟩ = some (.int .i64 a0) := ((blk_cell (blk_below HX1.out hb) 0).trans rfl); clear ho hb))
  clear q0 q0b HW1
  rename_i K1 hK1 K0 hK0
  have tail : ∀ (a : Act) (wc : World) (u2 u4 u5 u6 u7 u8 u9 u10 u11 u12 u13 u14 u15 u16 u17 u18 u19 u20 u21 u22 u23 u24 u25 u26 u27 u28 u29 u30 u31 u32 u33 u34 u35 u36 u37 u38 u39 u40 u41 u42 u43 u44 u45 u46 u47 u48 u49 u50 u51 u52 u53 u54 u55 u56 u57 u58 u59 u60 u61 u62 u63 u64 u65 u66 u67 u68 u69 u70 u71 u72 u73 u74 u75 u76 u77 u78 u79 u80 u81 u82 u83 u84 u85 u86 u87 u88 u89 u90 u91 u92 u93 u94 u95 u96 u97 u98 u99 u100 u101 u102 u103 u104 u105 v3 : Value), a = ⟨#[.agg (rcL ⟨a0, a1, a2, a3, a4, l5, l6⟩ A5 c5 A6 c6), .pointer (some ⟨W.heap.size, 0, none⟩), u2, v3, u4, u5, u6, u7, u8, u9, u10, u11, u12, u13, u14, u15, u16, u17, u18, u19, u20, u21, u22, u23, u24, u25, u26, u27, u28, u29, u30, u31, u32, u33, u34, u35, u36, u37, u38, u39, u40, u41, u42, u43, u44, u45, u46, u47, u48, u49, u50, u51, u52, u53, u54, u55, u56, u57, u58, u59, u60, u61, u62, u63, u64, u65, u66, u67, u68, u69, u70, u71, u72, u73, u74, u75, u76, u77, u78, u79, u80, u81, u82, u83, u84, u85, u86, u87, u88, u89, u90, u91, u92, u93, u94, u95, u96, u97, u98, u99, u100, u101, u102, u103, u104, u105], []⟩ → Aside0 (Kd.R (Kd.int .u8) 5 wc w1.heap.size (fun _ => True) v3 (recB a0 a1 a2 a3 a4 l5 l6)) → Aside0 (Below w1.heap.size w1 wc) → K1 a wc := by
    intro a wc u2 u4 u5 u6 u7 u8 u9 u10 u11 u12 u13 u14 u15 u16 u17 u18 u19 u20 u21 u22 u23 u24 u25 u26 u27 u28 u29 u30 u31 u32 u33 u34 u35 u36 u37 u38 u39 u40 u41 u42 u43 u44 u45 u46 u47 u48 u49 u50 u51 u52 u53 u54 u55 u56 u57 u58 u59 u60 u61 u62 u63 u64 u65 u66 u67 u68 u69 u70 u71 u72 u73 u74 u75 u76 u77 u78 u79 u80 u81 u82 u83 u84 u85 u86 u87 u88 u89 u90 u91 u92 u93 u94 u95 u96 u97 u98 u99 u100 u101 u102 u103 u104 u105 v3 ha HO HB
    subst ha
    clear hK0
    refine hK1 _ _ ?_
    clear hK1 HKINDS
    go_wp2_with fail
    go_returns
    exact ⟨_, rfl, Kd.R_lower HO.out (below_size HB1.out), below_step HB1.out HB.out⟩
  clear hK1
  by_cases k2 : a0 = 2
  · subst k2
    have q3 : w2.cell? ⟨W.heap.size, 3, none⟩ = some (.int .i64 a3) := ((blk_cell (blk_below HX1.out HB2.out) 3).trans rfl)
    have q4 : w2.cell? ⟨W.heap.size, 4, none⟩ = some (.int .i64 a4) := ((blk_cell (blk_below HX1.out HB2.out) 4).trans rfl)
    obtain ⟨l2, hl2⟩ : ∃ l2 : List Int, l2 = [a3 % 256, a4 % 256] := ⟨_, rfl⟩
    have hl2l : l2.length ≤ 2 := by rw [hl2]; exact Nat.le_refl 2
    have HL2 := Aside0.mk hl2
    clear hl2
    go_wp2_with (first
      | ((with_reducible refine gate_dst (N := 71) rfl ?_); refine Kd.R_lit (Kd.int .u8) (w0 := w2) w2.heap.size 5 ?hg (N := 71) ?hd (xs := ([a3 % 256, a4 % 256] : List Int)) (inner := [.int .u8 (a3 % 256), .int .u8 (a4 % 256)]) (ok := fun _ => True) (okp := fun _ => True) ?hr ?hp (fun _ hk => hk) trivial (Below.refl _ _) (Nat.le_refl _) (by simp) ?_; (case hd => rfl); (case hg => rfl); (case hr => first | (go_simp; done) | (go_simp; rfl)); (case hp => exact (Reps.one (show Kd.M (Kd.int .u8) _ _ _ (a3 % 256) [.int .u8 (a3 % 256)] from rfl) (Reps.one (show Kd.M (Kd.int .u8) _ _ _ (a4 % 256) [.int .u8 (a4 % 256)] from rfl) (Reps.none _ _)))); intro vl w4 ho hb hg hnew; clear hg hnew; rw [← HL2.out] at ho; obtain ⟨Al, cl, hvl, hcl, hCl⟩ := Kd.R_reads ho; subst hvl; have HCl := Aside0.mk hCl; have HO4 := Aside0.mk (Kd.R_below HO2.out hb); have HB4 := Aside0.mk (below_step HB2.out hb); clear ho hb hcl hCl)
      | ((with_reducible refine gate_builtin (b := .append) (xs := #[.tmp 64, .tmp 71]) rfl ?_); at_builtin; refine Kd.R_append_rows (Kd.int .u8) (w0 := w1) w1.heap.size rfl (.tmp 64) (.tmp 71) 30 5 (.int .u8 0) 1 rfl Try.underlying30 info_u8 rfl (by decide) (by omega) v3 b0 l2 _ _ _ (fun _ => True) (fun _ => False) rfl rfl HO4.out HCl.out (fun _ _ h => h) (fun _ h => h.elim) (fun _ _ => trivial) HB4.out (below_size HB4.out) (by (try simp only [List.length_append]); omega) ?_; intro v5 w5 ho hb hg hat; clear hg hat; have HO5 := Aside0.mk ho; have HB5 := Aside0.mk hb; clear ho hb))
    have HFIN := Aside0.mk (show b0 ++ l2 = recB _ a1 a2 a3 a4 l5 l6 by rw [HB0.out, HL2.out]; rfl)
    exact tail _ _ _ _ _ _ _ _ _ _ _ _ _ _ _ _ _ _ _ _ _ _ _ _ _ _ _ _ _ _ _ _ _ _ _ _ _ _ _ _ _ _ _ _ _ _ _ _ _ _ _ _ _ _ _ _ _ _ _ _ _ _ _ _ _ _ _ _ _ _ _ _ _ _ _ _ _ _ _ _ _ _ _ _ _ _ _ _ _ _ _ _ _ _ _ _ _ _ _ _ _ _ _ _ _ _ rfl ⟨by rw [← HFIN.out]; exact HO5.out⟩ HB5
  by_cases k3 : a0 = 3
  · subst k3
    have q3 : w2.cell? ⟨W.heap.size, 3, none⟩ = some (.int .i64 a3) := ((blk_cell (blk_below HX1.out HB2.out) 3).trans rfl)
    go_wp2_with ((with_reducible refine gate_builtin (b := .append) (xs := #[.tmp 75, .tmp 79]) rfl ?_); at_builtin; refine Kd.R_append (Kd.int .u8) (w0 := w1) w1.heap.size rfl (.tmp 75) (.tmp 79) 30 5 (.int .u8 0) 1 rfl Try.underlying30 info_u8 rfl (by decide) (by omega) v3 b0 (a3 % 256) [.int .u8 (a3 % 256)] (fun _ => True) (fun _ => False) rfl rfl rfl (fun _ hk => hk.elim) (fun _ _ => trivial) HO2.out HB2.out (below_size HB2.out) (by (try simp only [List.length_append]); omega) ?_; intro v5 w5 ho hb hg hat; clear hg hat; have HO5 := Aside0.mk ho; have HB5 := Aside0.mk hb; clear ho hb)
    have HFIN := Aside0.mk (show b0 ++ [a3 % 256] = recB _ a1 a2 a3 a4 l5 l6 by rw [HB0.out]; rfl)
    exact tail _ _ _ _ _ _ _ _ _ _ _ _ _ _ _ _ _ _ _ _ _ _ _ _ _ _ _ _ _ _ _ _ _ _ _ _ _ _ _ _ _ _ _ _ _ _ _ _ _ _ _ _ _ _ _ _ _ _ _ _ _ _ _ _ _ _ _ _ _ _ _ _ _ _ _ _ _ _ _ _ _ _ _ _ _ _ _ _ _ _ _ _ _ _ _ _ _ _ _ _ _ _ _ _ _ _ rfl ⟨by rw [← HFIN.out]; exact HO5.out⟩ HB5
  by_cases k1 : a0 = 1
  · subst k1
    obtain ⟨hv, hlv⟩ : (∀ v ∈ l5, wrOk v = true) ∧ l5.length ≤ 100 := by
      rcases HKINDS.out with h | h | h | h | h
      · exact h.2
      · exact absurd h.1 (by decide)
      · exact absurd h.1 (by decide)
      · exact absurd h.1 (by decide)
      · exact absurd h.1 (by decide)
    have HV := Aside0.mk hv
    have HLV := Aside0.mk hlv
    clear HKINDS hv hlv
    have HH := Aside0.mk (high8 a1)
    have HRBF := Aside0.mk (show b0 ++ putBytes 8 a1 ++ [(l5.length : Int) % 256] ++ wrsB l5 = recB 1 a1 a2 a3 a4 l5 l6 by rw [HB0.out]; simp [recB, bodyB])
    have hp8 : (putBytes 8 a1).length ≤ 8 := Nat.le_of_eq (put8_len a1)
    generalize putBytes 8 a1 = p8 at *
    have q1 : w2.cell? ⟨W.heap.size, 1, none⟩ = some (.int .u64 a1) := ((blk_cell (blk_below HX1.out HB2.out) 1).trans rfl)
    have q5 : w2.cell? ⟨W.heap.size, 5, none⟩ = some (.slice A5 l5.length c5) := ((blk_cell (blk_below HX1.out HB2.out) 5).trans rfl)
    go_upto_region 5 with (fail)
    refine start_ (n := 12) (S := fun w' => w'.cell? ⟨W.heap.size, 1, none⟩ = some (.int .u64 a1) ∧ w'.cell? ⟨W.heap.size, 5, none⟩ = some (.slice A5 l5.length c5)) (ds := []) #[false, false, false, false, false, false, false, false, false, false, false, false] (by kernel_rfl) rfl rfl ⟨(Gr.cell q1 ⟨w2.drew, below_drew1 (Below.refl _ _)⟩), (Gr.cell q5 ⟨w2.drew, below_drew1 (Below.refl _ _)⟩)⟩ (fun hHeld => ?_)
    obtain ⟨wz, hwz⟩ : ∃ wz, wz = w2.drew := ⟨_, rfl⟩
    rw [← hwz] at hHeld ⊢
    have HOz := Aside0.mk (show Kd.R (Kd.int .u8) 5 wz w1.heap.size (fun _ => True) v3 b0 by rw [hwz]; exact Kd.R_drew HO2.out)
    have HBz := Aside0.mk (show Below w1.heap.size w1 wz by rw [hwz]; exact below_drew1 HB2.out)
    clear hwz
    refine pure_ (i := 0) (N := some 21) (v := ?_) (a' := ?_) #[true, false, false, false, false, false, false, false, false, false, false, false] rfl rfl (by kernel_rfl) (fun _ _ _ h => h) (Or.inl ⟨by rfl, ?_⟩) ?_ ?_
    rotate_left
    · intro w'
      go_simp
      with_reducible rfl
    rotate_left
    · simp only [Act.put, List.setIfInBounds_toArray, List.set_cons_zero, List.set_cons_succ, i64_w, i32_w]
      rfl
    refine pure_ (i := 1) (N := some 22) (v := ?_) (a' := ?_) #[true, true, false, false, false, false, false, false, false, false, false, false] rfl rfl (by kernel_rfl) (fun _ _ _ h => h) (Or.inl ⟨by rfl, ?_⟩) ?_ ?_
    rotate_left
    · intro w'
      go_simp
      with_reducible rfl
    rotate_left
    · simp only [Act.put, List.setIfInBounds_toArray, List.set_cons_zero, List.set_cons_succ, i64_w, i32_w]
      rfl
    refine pure_ (i := 5) (N := some 26) (v := ?_) (a' := ?_) #[true, true, false, false, false, true, false, false, false, false, false, false] rfl rfl (by kernel_rfl) (fun _ _ _ h => h) (Or.inl ⟨by rfl, ?_⟩) ?_ ?_
    rotate_left
    · intro w'
      go_simp
      with_reducible rfl
    rotate_left
    · simp only [Act.put, List.setIfInBounds_toArray, List.set_cons_zero, List.set_cons_succ, i64_w, i32_w]
      rfl
    refine take_ (i := 2) (N := some 23) (v := ?_) (a' := ?_) #[true, true, true, false, false, true, false, false, false, false, false, false] rfl rfl (by kernel_rfl) (fun _ _ _ h => h) (Or.inl ⟨by rfl, ?_⟩) hHeld ?_ ?_
    rotate_left
    · rintro w' ⟨s0, s1⟩
      go_simp
      with_reducible rfl
    rotate_left
    · simp only [Act.put, List.setIfInBounds_toArray, List.set_cons_zero, List.set_cons_succ, i64_w, i32_w]
      rfl
    refine take_ (i := 6) (N := some 27) (v := ?_) (a' := ?_) #[true, true, true, false, false, true, true, false, false, false, false, false] rfl rfl (by kernel_rfl) (fun _ _ _ h => h) (Or.inl ⟨by rfl, ?_⟩) hHeld ?_ ?_
    rotate_left
    · rintro w' ⟨s0, s1⟩
      go_simp
      with_reducible rfl
    rotate_left
    · simp only [Act.put, List.setIfInBounds_toArray, List.set_cons_zero, List.set_cons_succ, i64_w, i32_w]
      rfl
    refine pure_ (i := 7) (N := some 28) (v := ?_) (a' := ?_) #[true, true, true, false, false, true, true, true, false, false, false, false] rfl rfl (by kernel_rfl) (fun _ _ _ h => h) (Or.inl ⟨by rfl, ?_⟩) ?_ ?_
    rotate_left
    · intro w'
      go_simp
      with_reducible rfl
    rotate_left
    · simp only [Act.put, List.setIfInBounds_toArray, List.set_cons_zero, List.set_cons_succ, i64_w, i32_w]
      rfl
    refine pure_ (i := 8) (N := some 29) (v := ?_) (a' := ?_) #[true, true, true, false, false, true, true, true, true, false, false, false] rfl rfl (by kernel_rfl) (fun _ _ _ h => h) (Or.inl ⟨by rfl, ?_⟩) ?_ ?_
    rotate_left
    · intro w'
      go_simp
      with_reducible rfl
    rotate_left
    · simp only [Act.put, List.setIfInBounds_toArray, List.set_cons_zero, List.set_cons_succ, i64_w, i32_w]
      rfl
    refine join_ (σ := Value × Value × Nat) 2 #[true, true, true, true, true, true, true, true, true, true, false, false] (fun s => [(24, s.1), (25, s.2.1), (30, .slice (some ⟨s.2.2, 0, none⟩) 1 1)]) (fun s w' => Aside0 (Kd.R (Kd.int .u8) 5 w' w1.heap.size (fun _ => True) s.2.1 (b0 ++ p8)) ∧ Aside0 (Below w1.heap.size w1 w') ∧ Aside0 (w'.heap[s.2.2]? = some (.cells #[.int .u8 ((l5.length : Int) % 256)] 5 (0, 0)))) ?_ ?_
    rotate_left
    · intro hCont
      refine two_ (i := 3) (j := 9) (Ni := some 24) (Nj := some 30) #[true, true, true, true, false, true, true, true, true, false, false, false] #[true, true, true, false, false, true, true, true, true, true, false, false] rfl rfl rfl rfl (by kernel_rfl) (by decide) (by decide) (fun K hK => ?_) (fun K hK => ?_)
      · skip
        refine goes_ Try.func101 (by kernel_rfl) rfl #[.int .u64 a1, .int .i64 8] (by rfl) rfl rfl (by simp only [List.map_toArray, List.map_cons, List.map_nil]; rfl) ?_
        with_reducible refine ((HH.out _)).mono ?_
        rintro e wa ⟨va, rfl, ho, hb⟩
        have HBa := Aside0.mk (below_step ((by repeat (first | exact HBz.out | apply below_alloc | apply below_drew1 | apply pw_below_drewN)) : Below w1.heap.size w1 _) hb)
        have HOa := Aside0.mk (Kd.R_below ((by repeat (first | exact HOz.out | apply Kd.R_drew | apply Kd.R_drewN | apply Kd.R_alloc)) : Kd.R (Kd.int .u8) 5 _ w1.heap.size (fun _ => True) v3 b0) hb)
        have HSa := Aside0.mk (show wz.heap.size ≤ wa.heap.size by have h := hb.size; first | exact h | (simp at h; omega))
        obtain ⟨Aa, ca, hva, hca, hCa⟩ := Kd.R_reads ho
        subst hva
        have HCa := Aside0.mk hCa
        clear ho hb hca hCa
        refine ⟨_, rfl, ?_⟩
        refine hK.out _ _ ⟨((blk_cell (blk_below HX1.out HBa.out) 1).trans rfl), ((blk_cell (blk_below HX1.out HBa.out) 5).trans rfl)⟩ (fun hHeld => ?_)
        clear hK K
        refine norm_ (a' := ?_) ?_ ?_
        rotate_left
        · show Act.put _ (some 24) _ = _
          simp only [Act.put, List.setIfInBounds_toArray, List.set_cons_zero, List.set_cons_succ, i64_w, i32_w]
          rfl
        refine two_ (i := 4) (j := 9) (Ni := some 25) (Nj := some 30) #[true, true, true, true, true, true, true, true, true, false, false, false] #[true, true, true, true, false, true, true, true, true, true, false, false] rfl rfl rfl rfl (by kernel_rfl) (by decide) (by decide) (fun K hK => ?_) (fun K hK => ?_)
        · skip
          refine Kd.R_append_rows_step (Kd.int .u8) (w0 := w1) w1.heap.size (by rfl) (.tmp 21) (.tmp 24) 30 5 (.int .u8 0) 1 rfl Try.underlying30 info_u8 rfl (by decide) (by omega) v3 b0 p8 _ _ _ (fun _ => True) (fun _ => False) rfl rfl HOa.out HCa.out (fun _ _ h => h) (fun _ h => h.elim) (fun _ _ => trivial) HBa.out (below_size HBa.out) (by (try simp only [List.length_append]); omega) ?_
          intro vb wb ho hb hg hat
          clear hat
          have HOb := Aside0.mk ho
          have HBb := Aside0.mk hb
          clear ho hb hg
          refine hK.out _ _ ⟨((blk_cell (blk_below HX1.out HBb.out) 1).trans rfl), ((blk_cell (blk_below HX1.out HBb.out) 5).trans rfl)⟩ (fun hHeld => ?_)
          clear hK K
          refine norm_ (a' := ?_) ?_ ?_
          rotate_left
          · show Act.put _ (some 25) _ = _
            simp only [Act.put, List.setIfInBounds_toArray, List.set_cons_zero, List.set_cons_succ, i64_w, i32_w]
            rfl
          refine one_ (i := 9) (N := some 30) #[true, true, true, true, true, true, true, true, true, true, false, false] rfl rfl (by kernel_rfl) (by decide) (fun K hK => ?_)
          refine value_ (w1 := ?_) (v := ?_) (by rfl) rfl ?_ ?_
          rotate_left 2
          · go_simp
            constructor
            · rfl
            · rfl
          refine hK.out _ _ ⟨((blk_cell (blk_below HX1.out (below_alloc HBb.out _)) 1).trans rfl), ((blk_cell (blk_below HX1.out (below_alloc HBb.out _)) 5).trans rfl)⟩ (fun hHeld => ?_)
          clear hK K
          refine norm_ (a' := ?_) ?_ ?_
          rotate_left
          · show Act.put _ (some 30) _ = _
            simp only [Act.put, List.setIfInBounds_toArray, List.set_cons_zero, List.set_cons_succ, i64_w, i32_w]
            rfl
          exact norm_ (by simp only [putAll, Act.put, List.setIfInBounds_toArray, List.set_cons_zero, List.set_cons_succ]) (hCont (.slice Aa p8.length ca, vb, wb.heap.size) _ ⟨⟨Kd.R_alloc HOb.out _⟩, ⟨below_alloc HBb.out _⟩, ⟨heap_alloc_new _ _⟩⟩)
        · skip
          refine value_ (w1 := ?_) (v := ?_) (by rfl) rfl ?_ ?_
          rotate_left 2
          · go_simp
            constructor
            · rfl
            · rfl
          refine hK.out _ _ ⟨((blk_cell (blk_below HX1.out (below_alloc HBa.out _)) 1).trans rfl), ((blk_cell (blk_below HX1.out (below_alloc HBa.out _)) 5).trans rfl)⟩ (fun hHeld => ?_)
          clear hK K
          refine norm_ (a' := ?_) ?_ ?_
          rotate_left
          · show Act.put _ (some 30) _ = _
            simp only [Act.put, List.setIfInBounds_toArray, List.set_cons_zero, List.set_cons_succ, i64_w, i32_w]
            rfl
          refine one_ (i := 4) (N := some 25) #[true, true, true, true, true, true, true, true, true, true, false, false] rfl rfl (by kernel_rfl) (by decide) (fun K hK => ?_)
          refine Kd.R_append_rows_step (Kd.int .u8) (w0 := w1) w1.heap.size (by rfl) (.tmp 21) (.tmp 24) 30 5 (.int .u8 0) 1 rfl Try.underlying30 info_u8 rfl (by decide) (by omega) v3 b0 p8 _ _ _ (fun _ => True) (fun _ => False) rfl rfl (Kd.R_alloc HOa.out _) (Kd.C_alloc HCa.out _) (fun _ _ h => h) (fun _ h => h.elim) (fun _ _ => trivial) (below_alloc HBa.out _) (below_size (below_alloc HBa.out _)) (by (try simp only [List.length_append]); omega) ?_
          intro vb wb ho hb hg hat
          clear hat
          have HOb := Aside0.mk ho
          have HBb := Aside0.mk hb
          have HGb := Aside0.mk (show wb.heap[wa.heap.size]? = some (.cells #[.int .u8 ((l5.length : Int) % 256)] 5 (0, 0)) from (hg.block _ (by simp) (own_less HOz.out HSa.out)).trans (heap_alloc_new _ _))
          clear ho hb hg
          refine hK.out _ _ ⟨((blk_cell (blk_below HX1.out HBb.out) 1).trans rfl), ((blk_cell (blk_below HX1.out HBb.out) 5).trans rfl)⟩ (fun hHeld => ?_)
          clear hK K
          refine norm_ (a' := ?_) ?_ ?_
          rotate_left
          · show Act.put _ (some 25) _ = _
            simp only [Act.put, List.setIfInBounds_toArray, List.set_cons_zero, List.set_cons_succ, i64_w, i32_w]
            rfl
          exact norm_ (by simp only [putAll, Act.put, List.setIfInBounds_toArray, List.set_cons_zero, List.set_cons_succ]) (hCont (.slice Aa p8.length ca, vb, wa.heap.size) _ ⟨HOb, HBb, HGb⟩)
      · skip
        refine value_ (w1 := ?_) (v := ?_) (by rfl) rfl ?_ ?_
        rotate_left 2
        · go_simp
          constructor
          · rfl
          · rfl
        refine hK.out _ _ ⟨((blk_cell (blk_below HX1.out (below_alloc HBz.out _)) 1).trans rfl), ((blk_cell (blk_below HX1.out (below_alloc HBz.out _)) 5).trans rfl)⟩ (fun hHeld => ?_)
        clear hK K
        refine norm_ (a' := ?_) ?_ ?_
        rotate_left
        · show Act.put _ (some 30) _ = _
          simp only [Act.put, List.setIfInBounds_toArray, List.set_cons_zero, List.set_cons_succ, i64_w, i32_w]
          rfl
        refine one_ (i := 3) (N := some 24) #[true, true, true, true, false, true, true, true, true, true, false, false] rfl rfl (by kernel_rfl) (by decide) (fun K hK => ?_)
        refine goes_ Try.func101 (by kernel_rfl) rfl #[.int .u64 a1, .int .i64 8] (by rfl) rfl rfl (by simp only [List.map_toArray, List.map_cons, List.map_nil]; rfl) ?_
        with_reducible refine ((HH.out _)).mono ?_
        rintro e wa ⟨va, rfl, ho, hb⟩
        have HBa := Aside0.mk (below_step ((by repeat (first | exact HBz.out | apply below_alloc | apply below_drew1 | apply pw_below_drewN)) : Below w1.heap.size w1 _) hb)
        have HOa := Aside0.mk (Kd.R_below ((by repeat (first | exact HOz.out | apply Kd.R_drew | apply Kd.R_drewN | apply Kd.R_alloc)) : Kd.R (Kd.int .u8) 5 _ w1.heap.size (fun _ => True) v3 b0) hb)
        have HSa := Aside0.mk (show wz.heap.size ≤ wa.heap.size by have h := hb.size; first | exact h | (simp at h; omega))
        obtain ⟨Aa, ca, hva, hca, hCa⟩ := Kd.R_reads ho
        subst hva
        have HCa := Aside0.mk hCa
        have HGa := Aside0.mk (show wa.heap[wz.heap.size]? = some (.cells #[.int .u8 ((l5.length : Int) % 256)] 5 (0, 0)) from blk_below (heap_alloc_new _ _) hb)
        clear ho hb hca hCa
        refine ⟨_, rfl, ?_⟩
        refine hK.out _ _ ⟨((blk_cell (blk_below HX1.out HBa.out) 1).trans rfl), ((blk_cell (blk_below HX1.out HBa.out) 5).trans rfl)⟩ (fun hHeld => ?_)
        clear hK K
        refine norm_ (a' := ?_) ?_ ?_
        rotate_left
        · show Act.put _ (some 24) _ = _
          simp only [Act.put, List.setIfInBounds_toArray, List.set_cons_zero, List.set_cons_succ, i64_w, i32_w]
          rfl
        refine one_ (i := 4) (N := some 25) #[true, true, true, true, true, true, true, true, true, true, false, false] rfl rfl (by kernel_rfl) (by decide) (fun K hK => ?_)
        refine Kd.R_append_rows_step (Kd.int .u8) (w0 := w1) w1.heap.size (by rfl) (.tmp 21) (.tmp 24) 30 5 (.int .u8 0) 1 rfl Try.underlying30 info_u8 rfl (by decide) (by omega) v3 b0 p8 _ _ _ (fun _ => True) (fun _ => False) rfl rfl HOa.out HCa.out (fun _ _ h => h) (fun _ h => h.elim) (fun _ _ => trivial) HBa.out (below_size HBa.out) (by (try simp only [List.length_append]); omega) ?_
        intro vb wb ho hb hg hat
        clear hat
        have HOb := Aside0.mk ho
        have HBb := Aside0.mk hb
        have HGb := Aside0.mk (show wb.heap[wz.heap.size]? = some (.cells #[.int .u8 ((l5.length : Int) % 256)] 5 (0, 0)) from (hg.block _ (blk_lt HGa.out) (own_less HOz.out (Nat.le_refl _))).trans HGa.out)
        clear ho hb hg
        refine hK.out _ _ ⟨((blk_cell (blk_below HX1.out HBb.out) 1).trans rfl), ((blk_cell (blk_below HX1.out HBb.out) 5).trans rfl)⟩ (fun hHeld => ?_)
        clear hK K
        refine norm_ (a' := ?_) ?_ ?_
        rotate_left
        · show Act.put _ (some 25) _ = _
          simp only [Act.put, List.setIfInBounds_toArray, List.set_cons_zero, List.set_cons_succ, i64_w, i32_w]
          rfl
        exact norm_ (by simp only [putAll, Act.put, List.setIfInBounds_toArray, List.set_cons_zero, List.set_cons_succ]) (hCont (.slice Aa p8.length ca, vb, wz.heap.size) _ ⟨HOb, HBb, HGb⟩)
    rintro ⟨v24, v25, g⟩ w4 ⟨HO4, HB4, HG4⟩
    have hHeld : w4.cell? ⟨W.heap.size, 1, none⟩ = some (.int .u64 a1) ∧ w4.cell? ⟨W.heap.size, 5, none⟩ = some (.slice A5 l5.length c5) := ⟨((blk_cell (blk_below HX1.out HB4.out) 1).trans rfl), ((blk_cell (blk_below HX1.out HB4.out) 5).trans rfl)⟩
    refine norm_ (a' := ?_) ?_ ?_
    rotate_left
    · simp only [putAll, Act.put, List.setIfInBounds_toArray, List.set_cons_zero, List.set_cons_succ]
      rfl
    refine one_ (i := 10) (N := some 31) #[true, true, true, true, true, true, true, true, true, true, true, false] rfl rfl (by kernel_rfl) (by decide) (fun K hK => ?_)
    refine Kd.R_append_rows_step (Kd.int .u8) (w0 := w1) w1.heap.size (by rfl) (.tmp 25) (.tmp 30) 30 5 (.int .u8 0) 1 rfl Try.underlying30 info_u8 rfl (by decide) (by omega) v25 (b0 ++ p8) [((l5.length : Int) % 256)] _ _ _ (fun _ => True) (fun _ => False) rfl rfl HO4.out (one_C HG4.out) (fun _ _ h => h) (fun _ h => h.elim) (fun _ _ => trivial) HB4.out (below_size HB4.out) (by (try simp only [List.length_append]); omega) ?_
    intro v5 w5 ho hb hg hat
    clear hg hat
    have HO5 := Aside0.mk ho
    have HB5 := Aside0.mk hb
    clear ho hb
    refine hK.out _ _ ⟨((blk_cell (blk_below HX1.out HB5.out) 1).trans rfl), ((blk_cell (blk_below HX1.out HB5.out) 5).trans rfl)⟩ (fun hHeld => ?_)
    clear hK K
    refine norm_ (a' := ?_) ?_ ?_
    rotate_left
    · show Act.put _ (some 31) _ = _
      simp only [Act.put, List.setIfInBounds_toArray, List.set_cons_zero, List.set_cons_succ, i64_w, i32_w]
      rfl
    refine pure_ (i := 11) (N := some 3) (v := ?_) (a' := ?_) #[true, true, true, true, true, true, true, true, true, true, true, true] rfl rfl (by kernel_rfl) (fun _ _ _ h => h) (Or.inl ⟨by rfl, ?_⟩) ?_ ?_
    rotate_left
    · intro w'
      go_simp
      with_reducible rfl
    rotate_left
    · simp only [Act.put, List.setIfInBounds_toArray, List.set_cons_zero, List.set_cons_succ, i64_w, i32_w]
      rfl
    refine done_ (by kernel_rfl) ?_
    obtain ⟨b1, hb1⟩ : ∃ b1, b1 = b0 ++ p8 ++ [((l5.length : Int) % 256)] := ⟨_, rfl⟩
    have hb1l : b1.length ≤ 10 := by rw [hb1, List.length_append, List.length_append]; simp only [List.length_cons, List.length_nil]; omega
    rw [← hb1] at HRBF HO5
    clear hb1 q1 q5
    have q5 : w5.cell? ⟨W.heap.size, 5, none⟩ = some (.slice A5 l5.length c5) := ((blk_cell (blk_below HX1.out HB5.out) 5).trans rfl)
    go_wp2_with fail
    go_loopg [3, 5, 35] l5.length (fun gg v3 _ s35 wr => ∃ kk : Nat, kk ≤ l5.length ∧ l5.length - kk ≤ gg ∧ s35 = .int .i64 kk ∧ Aside0 (Kd.R (Kd.int .u8) 5 wr w1.heap.size (fun _ => True) v3 (b1 ++ wrsB (l5.take kk))) ∧ Aside0 (Below w1.heap.size w1 wr))
    case atStart => exact ⟨0, by omega, by omega, rfl, ⟨by simpa [wrsB] using HO5.out⟩, HB5⟩
    case round =>
      obtain ⟨kk, hkk, hg, rfl, HOk, HBk⟩ := hrel
      obtain ⟨wo, rfl⟩ : ∃ wo, wo = wr := ⟨_, rfl⟩
      by_cases hlt : kk < l5.length
      · have hltz : (kk : Int) < (l5.length : Int) := by omega
        obtain ⟨ad, A4, c4, hA, p0, p1, p2, p3, hl4, hC4⟩ := P.at_T87 HC5.out (kk : Int) (by omega) (by omega)
        subst hA
        replace p0 := (HBk.out.cell (World.block_lt_of_cell? w1 _ p0)).trans p0
        replace p1 := (HBk.out.cell (World.block_lt_of_cell? w1 _ p1)).trans p1
        replace p2 := (HBk.out.cell (World.block_lt_of_cell? w1 _ p2)).trans p2
        replace p3 := (HBk.out.cell (World.block_lt_of_cell? w1 _ p3)).trans p3
        simp only [Int.toNat_natCast] at p0 p1 p2 p3
        have hxe : P.rd_T87 l5 (kk : Int) = l5[kk] := wrAt_lt l5 kk hlt
        have hok : wrOk (P.rd_T87 l5 (kk : Int)) = true := by rw [hxe]; exact HV.out _ (List.getElem_mem hlt)
        have hL : (b1 ++ wrsB (l5.take kk)).length ≤ 10000 := by
          have hlv := HLV.out
          have := wrsB_le (l5.take kk) (fun v hv => HV.out v (List.mem_of_mem_take hv))
          rw [List.length_take] at this
          rw [List.length_append]
          omega
        have HNX := Aside0.mk (show b1 ++ wrsB (l5.take kk) ++ wrB (P.rd_T87 l5 (kk : Int)) = b1 ++ wrsB (l5.take (kk + 1)) by
          rw [hxe, List.take_succ_eq_append_getElem hlt]; unfold wrsB; rw [List.map_append, List.flatten_append, List.append_assoc]; simp)
        clear hxe
        generalize P.rd_T87 l5 (kk : Int) = x at *
        generalize b1 ++ wrsB (l5.take kk) = L at *
        obtain ⟨f0, f1, f2, f3⟩ := x
        simp only at p0 p1 p2 p3 hl4 hC4
        obtain ⟨wb, hwb⟩ : ∃ wb, wb = wo.alloc (.cells #[.int .i64 f0, .int .u64 f1, .bool f2, .slice A4 f3.length c4] 87) := ⟨_, rfl⟩
        obtain ⟨B, hB⟩ : ∃ B, B = wo.heap.size := ⟨_, rfl⟩
        have hbo : Below wo.heap.size wo wb := by rw [hwb]; exact below_alloc (Below.refl _ _) _
        have HXb := Aside0.mk (show wb.heap[B]? = some (.cells #[.int .i64 f0, .int .u64 f1, .bool f2, .slice A4 f3.length c4] 87 (0, 0)) by rw [hwb, hB]; exact heap_alloc_new _ _)
        have HBb := Aside0.mk (below_step HBk.out hbo)
        have HOb := Aside0.mk (Kd.R_below HOk.out hbo)
        have HCW := Aside0.mk hC4
        have HHf := Aside0.mk (high8 f1)
        have HW := Aside0.mk hwb
        have HB' := Aside0.mk hB
        have hpf : (putBytes 8 f1).length ≤ 8 := Nat.le_of_eq (put8_len f1)
        unfold wrB at HNX
        simp only at HNX
        generalize putBytes 8 f1 = pf at *
        clear hwb hB hbo hC4
        go_upto_region 9 with (fail)
        rw [← HW.out, ← HB'.out]
        clear p0 p1 p2 p3 HW HB'
        have p0 : wb.cell? ⟨B, 0, none⟩ = some (.int .i64 f0) := (blk_cell HXb.out 0).trans rfl
        have p1 : wb.cell? ⟨B, 1, none⟩ = some (.int .u64 f1) := (blk_cell HXb.out 1).trans rfl
        refine start_ (n := 11) (S := fun w' => w'.cell? ⟨B, 0, none⟩ = some (.int .i64 f0) ∧ w'.cell? ⟨B, 1, none⟩ = some (.int .u64 f1)) (ds := []) #[false, false, false, false, false, false, false, false, false, false, false] (by kernel_rfl) rfl rfl ⟨(Gr.cell p0 ⟨wb.drew, below_drew1 (Below.refl _ _)⟩), (Gr.cell p1 ⟨wb.drew, below_drew1 (Below.refl _ _)⟩)⟩ (fun hHeld => ?_)
        obtain ⟨wz, hwz⟩ : ∃ wz, wz = wb.drew := ⟨_, rfl⟩
        rw [← hwz] at hHeld ⊢
        have HOz := Aside0.mk (show Kd.R (Kd.int .u8) 5 wz w1.heap.size (fun _ => True) u3 L by rw [hwz]; exact Kd.R_drew HOb.out)
        have HBz := Aside0.mk (show Below w1.heap.size w1 wz by rw [hwz]; exact below_drew1 HBb.out)
        have HXz := Aside0.mk (blk_below HXb.out (show Below wb.heap.size wb wz by rw [hwz]; exact below_drew1 (Below.refl _ _)))
        clear hwz
        refine pure_ (i := 0) (N := some 39) (v := ?_) (a' := ?_) #[true, false, false, false, false, false, false, false, false, false, false] rfl rfl (by kernel_rfl) (fun _ _ _ h => h) (Or.inl ⟨by rfl, ?_⟩) ?_ ?_
        rotate_left
        · intro w'
          go_simp
          with_reducible rfl
        rotate_left
        · simp only [Act.put, List.setIfInBounds_toArray, List.set_cons_zero, List.set_cons_succ, i64_w, i32_w]
          rfl
        refine pure_ (i := 1) (N := some 40) (v := ?_) (a' := ?_) #[true, true, false, false, false, false, false, false, false, false, false] rfl rfl (by kernel_rfl) (fun _ _ _ h => h) (Or.inl ⟨by rfl, ?_⟩) ?_ ?_
        rotate_left
        · intro w'
          go_simp
          with_reducible rfl
        rotate_left
        · simp only [Act.put, List.setIfInBounds_toArray, List.set_cons_zero, List.set_cons_succ, i64_w, i32_w]
          rfl
        refine pure_ (i := 6) (N := some 45) (v := ?_) (a' := ?_) #[true, true, false, false, false, false, true, false, false, false, false] rfl rfl (by kernel_rfl) (fun _ _ _ h => h) (Or.inl ⟨by rfl, ?_⟩) ?_ ?_
        rotate_left
        · intro w'
          go_simp
          with_reducible rfl
        rotate_left
        · simp only [Act.put, List.setIfInBounds_toArray, List.set_cons_zero, List.set_cons_succ, i64_w, i32_w]
          rfl
        refine take_ (i := 2) (N := some 41) (v := ?_) (a' := ?_) #[true, true, true, false, false, false, true, false, false, false, false] rfl rfl (by kernel_rfl) (fun _ _ _ h => h) (Or.inl ⟨by rfl, ?_⟩) hHeld ?_ ?_
        rotate_left
        · rintro w' ⟨s0, s1⟩
          go_simp
          with_reducible rfl
        rotate_left
        · simp only [Act.put, List.setIfInBounds_toArray, List.set_cons_zero, List.set_cons_succ, i64_w, i32_w]
          rfl
        refine pure_ (i := 3) (N := some 42) (v := ?_) (a' := ?_) #[true, true, true, true, false, false, true, false, false, false, false] rfl rfl (by kernel_rfl) (fun _ _ _ h => h) (Or.inl ⟨by rfl, ?_⟩) ?_ ?_
        rotate_left
        · intro w'
          go_simp
          with_reducible rfl
        rotate_left
        · simp only [Act.put, List.setIfInBounds_toArray, List.set_cons_zero, List.set_cons_succ, i64_w, i32_w]
          rfl
        refine take_ (i := 7) (N := some 46) (v := ?_) (a' := ?_) #[true, true, true, true, false, false, true, true, false, false, false] rfl rfl (by kernel_rfl) (fun _ _ _ h => h) (Or.inl ⟨by rfl, ?_⟩) hHeld ?_ ?_
        rotate_left
        · rintro w' ⟨s0, s1⟩
          go_simp
          with_reducible rfl
        rotate_left
        · simp only [Act.put, List.setIfInBounds_toArray, List.set_cons_zero, List.set_cons_succ, i64_w, i32_w]
          rfl
        refine one_ (i := 4) (N := some 43) #[true, true, true, true, true, false, true, true, false, false, false] rfl rfl (by kernel_rfl) (by decide) (fun K hK => ?_)
        refine value_ (w1 := ?_) (v := ?_) (by rfl) rfl ?_ ?_
        rotate_left 2
        · go_simp
          constructor
          · rfl
          · rfl
        refine hK.out _ _ ⟨((blk_cell (blk_below HXz.out (below_alloc (Below.refl _ _) _)) 0).trans rfl), ((blk_cell (blk_below HXz.out (below_alloc (Below.refl _ _) _)) 1).trans rfl)⟩ (fun hHeld => ?_)
        clear hK K
        refine norm_ (a' := ?_) ?_ ?_
        rotate_left
        · show Act.put _ (some 43) _ = _
          simp only [Act.put, List.setIfInBounds_toArray, List.set_cons_zero, List.set_cons_succ, i64_w, i32_w]
          rfl
        refine one_ (i := 5) (N := some 44) #[true, true, true, true, true, true, true, true, false, false, false] rfl rfl (by kernel_rfl) (by decide) (fun K hK => ?_)
        refine Kd.R_append_step (Kd.int .u8) (w0 := w1) w1.heap.size (by rfl) (.tmp 39) (.tmp 43) 30 5 (.int .u8 0) 1 rfl Try.underlying30 info_u8 rfl (by decide) (by omega) u3 L (f0 % 256) [.int .u8 (f0 % 256)] (fun _ => True) (fun _ => False) rfl rfl rfl (fun _ hk => hk.elim) (fun _ _ => trivial) HOz.out HBz.out (below_size HBz.out) (by (try simp only [List.length_append]); omega) ?_
        intro vc wc ho hb hg hat
        clear hat
        have HOc := Aside0.mk ho
        have HBc := Aside0.mk hb
        have HXc := Aside0.mk (show wc.heap[B]? = some (.cells #[.int .i64 f0, .int .u64 f1, .bool f2, .slice A4 f3.length c4] 87 (0, 0)) from (hg.block B (blk_lt HXz.out) (Kd.R_ne HOz.out HXz.out (by decide))).trans HXz.out)
        clear ho hb hg
        refine hK.out _ _ ⟨((blk_cell HXc.out 0).trans rfl), ((blk_cell HXc.out 1).trans rfl)⟩ (fun hHeld => ?_)
        clear hK K
        refine norm_ (a' := ?_) ?_ ?_
        rotate_left
        · show Act.put _ (some 44) _ = _
          simp only [Act.put, List.setIfInBounds_toArray, List.set_cons_zero, List.set_cons_succ, i64_w, i32_w]
          rfl
        refine one_ (i := 8) (N := some 47) #[true, true, true, true, true, true, true, true, true, false, false] rfl rfl (by kernel_rfl) (by decide) (fun K hK => ?_)
        refine goes_ Try.func101 (by kernel_rfl) rfl #[.int .u64 f1, .int .i64 8] (by rfl) rfl rfl (by simp only [List.map_toArray, List.map_cons, List.map_nil]; rfl) ?_
        with_reducible refine ((HHf.out _)).mono ?_
        rintro e wd ⟨vd, rfl, ho, hb⟩
        have HBd := Aside0.mk (below_step HBc.out hb)
        have HOd := Aside0.mk (Kd.R_below HOc.out hb)
        have HXd := Aside0.mk (blk_below HXc.out hb)
        obtain ⟨Ad, cd, hvd, hcd, hCd⟩ := Kd.R_reads ho
        subst hvd
        have HCd := Aside0.mk hCd
        clear ho hb hcd hCd
        refine ⟨_, rfl, ?_⟩
        refine hK.out _ _ ⟨((blk_cell HXd.out 0).trans rfl), ((blk_cell HXd.out 1).trans rfl)⟩ (fun hHeld => ?_)
        clear hK K
        refine norm_ (a' := ?_) ?_ ?_
        rotate_left
        · show Act.put _ (some 47) _ = _
          simp only [Act.put, List.setIfInBounds_toArray, List.set_cons_zero, List.set_cons_succ, i64_w, i32_w]
          rfl
        refine one_ (i := 9) (N := some 48) #[true, true, true, true, true, true, true, true, true, true, false] rfl rfl (by kernel_rfl) (by decide) (fun K hK => ?_)
        refine Kd.R_append_rows_step (Kd.int .u8) (w0 := w1) w1.heap.size (by rfl) (.tmp 44) (.tmp 47) 30 5 (.int .u8 0) 1 rfl Try.underlying30 info_u8 rfl (by decide) (by omega) vc (L ++ [f0 % 256]) pf _ _ _ (fun _ => True) (fun _ => False) rfl rfl HOd.out HCd.out (fun _ _ h => h) (fun _ h => h.elim) (fun _ _ => trivial) HBd.out (below_size HBd.out) (by simp only [List.length_append, List.length_cons, List.length_nil]; omega) ?_
        intro ve we ho hb hg hat
        clear hat
        have HOe := Aside0.mk ho
        have HBe := Aside0.mk hb
        have HXe := Aside0.mk (show we.heap[B]? = some (.cells #[.int .i64 f0, .int .u64 f1, .bool f2, .slice A4 f3.length c4] 87 (0, 0)) from (hg.block B (blk_lt HXd.out) (Kd.R_ne HOd.out HXd.out (by decide))).trans HXd.out)
        clear ho hb hg
        refine hK.out _ _ ⟨((blk_cell HXe.out 0).trans rfl), ((blk_cell HXe.out 1).trans rfl)⟩ (fun hHeld => ?_)
        clear hK K
        refine norm_ (a' := ?_) ?_ ?_
        rotate_left
        · show Act.put _ (some 48) _ = _
          simp only [Act.put, List.setIfInBounds_toArray, List.set_cons_zero, List.set_cons_succ, i64_w, i32_w]
          rfl
        refine pure_ (i := 10) (N := some 3) (v := ?_) (a' := ?_) #[true, true, true, true, true, true, true, true, true, true, true] rfl rfl (by kernel_rfl) (fun _ _ _ h => h) (Or.inl ⟨by rfl, ?_⟩) ?_ ?_
        rotate_left
        · intro w'
          go_simp
          with_reducible rfl
        rotate_left
        · simp only [Act.put, List.setIfInBounds_toArray, List.set_cons_zero, List.set_cons_succ, i64_w, i32_w]
          rfl
        refine done_ (by kernel_rfl) ?_
        have p2 : we.cell? ⟨B, 2, none⟩ = some (.bool f2) := (blk_cell HXe.out 2).trans rfl
        have hL2 : (L ++ [f0 % 256] ++ pf).length ≤ 10009 := by rw [List.length_append, List.length_append]; simp only [List.length_cons, List.length_nil]; omega
        have HNX2 := Aside0.mk (show L ++ [f0 % 256] ++ pf ++ (if f2 = true then [1] else [0] ++ vecB f3) = b1 ++ wrsB (l5.take (kk + 1)) by rw [← HNX.out]; simp)
        generalize L ++ [f0 % 256] ++ pf = M at *
        clear p0 p1
        cases f2 with
        | true =>
          rw [if_pos rfl] at HNX2
          go_wp2_with ((with_reducible refine gate_builtin (b := .append) (xs := #[.tmp 51, .tmp 52]) rfl ?_); at_builtin; refine Kd.R_append (Kd.int .u8) (w0 := w1) w1.heap.size rfl (.tmp 51) (.tmp 52) 30 5 (.int .u8 0) 1 rfl Try.underlying30 info_u8 rfl (by decide) (by omega) ve M 1 [.int .u8 1] (fun _ => True) (fun _ => False) rfl rfl rfl (fun _ hk => hk.elim) (fun _ _ => trivial) HOe.out HBe.out (below_size HBe.out) (by (try simp only [List.length_append]); omega) ?_; intro v8 w8 ho hb hg hat; clear hg hat; rw [HNX2.out] at ho; have HO8 := Aside0.mk ho; have HB8 := Aside0.mk hb; clear ho hb)
          go_roundg (l5.length - (kk + 1))
          case measure => omega
          case rel => exact ⟨kk + 1, by omega, by omega, by go_num, HO8, HB8⟩
        | false =>
          rw [if_neg (by decide)] at HNX2
          have hrt : right f3 = true := by unfold wrOk at hok; simp only at hok; rw [Bool.and_eq_true, if_neg (by decide)] at hok; exact hok.2
          have hr4 := (right_range hrt).1
          have hvl : (vecB f3).length ≤ 17 := vecB_le hrt
          have HVC := Aside0.mk (fun (W2 : World) (h : Kd.C (Kd.int .i32) W2 A4 f3.length f3) => P.quiverref07_Vec.calls (f3.length + 12) A4 c4 f3 (vecB f3) W2 h hl4 (rvec_is _ (by omega) _ (Nat.le_refl _)))
          generalize vecB f3 = vv at *
          clear hrt hr4 hok
          go_upto_region 12 with (fail)
          clear p2
          have p3 : we.cell? ⟨B, 3, none⟩ = some (.slice A4 f3.length c4) := (blk_cell HXe.out 3).trans rfl
          refine start_ (n := 8) (S := fun w' => w'.cell? ⟨B, 3, none⟩ = some (.slice A4 f3.length c4)) (ds := []) #[false, false, false, false, false, false, false, false] (by kernel_rfl) rfl rfl ((Gr.cell p3 ⟨we.drew, below_drew1 (Below.refl _ _)⟩)) (fun hHeld => ?_)
          obtain ⟨wz, hwz⟩ : ∃ wz, wz = we.drew := ⟨_, rfl⟩
          rw [← hwz] at hHeld ⊢
          have HOz := Aside0.mk (show Kd.R (Kd.int .u8) 5 wz w1.heap.size (fun _ => True) ve M by rw [hwz]; exact Kd.R_drew HOe.out)
          have HBz := Aside0.mk (show Below w1.heap.size w1 wz by rw [hwz]; exact below_drew1 HBe.out)
          have HXz := Aside0.mk (blk_below HXe.out (show Below we.heap.size we wz by rw [hwz]; exact below_drew1 (Below.refl _ _)))
          clear hwz
          refine pure_ (i := 0) (N := some 54) (v := ?_) (a' := ?_) #[true, false, false, false, false, false, false, false] rfl rfl (by kernel_rfl) (fun _ _ _ h => h) (Or.inl ⟨by rfl, ?_⟩) ?_ ?_
          rotate_left
          · intro w'
            go_simp
            with_reducible rfl
          rotate_left
          · simp only [Act.put, List.setIfInBounds_toArray, List.set_cons_zero, List.set_cons_succ, i64_w, i32_w]
            rfl
          refine pure_ (i := 3) (N := some 57) (v := ?_) (a' := ?_) #[true, false, false, true, false, false, false, false] rfl rfl (by kernel_rfl) (fun _ _ _ h => h) (Or.inl ⟨by rfl, ?_⟩) ?_ ?_
          rotate_left
          · intro w'
            go_simp
            with_reducible rfl
          rotate_left
          · simp only [Act.put, List.setIfInBounds_toArray, List.set_cons_zero, List.set_cons_succ, i64_w, i32_w]
            rfl
          refine take_ (i := 4) (N := some 58) (v := ?_) (a' := ?_) #[true, false, false, true, true, false, false, false] rfl rfl (by kernel_rfl) (fun _ _ _ h => h) (Or.inl ⟨by rfl, ?_⟩) hHeld ?_ ?_
          rotate_left
          · intro w' s0
            go_simp
            with_reducible rfl
          rotate_left
          · simp only [Act.put, List.setIfInBounds_toArray, List.set_cons_zero, List.set_cons_succ, i64_w, i32_w]
            rfl
          refine one_ (i := 1) (N := some 55) #[true, true, false, true, true, false, false, false] rfl rfl (by kernel_rfl) (by decide) (fun K hK => ?_)
          refine value_ (w1 := ?_) (v := ?_) (by rfl) rfl ?_ ?_
          rotate_left 2
          · go_simp
            constructor
            · rfl
            · rfl
          refine hK.out _ _ (((blk_cell (blk_below HXz.out (below_alloc (Below.refl _ _) _)) 3).trans rfl)) (fun hHeld => ?_)
          clear hK K
          refine norm_ (a' := ?_) ?_ ?_
          rotate_left
          · show Act.put _ (some 55) _ = _
            simp only [Act.put, List.setIfInBounds_toArray, List.set_cons_zero, List.set_cons_succ, i64_w, i32_w]
            rfl
          refine one_ (i := 2) (N := some 56) #[true, true, true, true, true, false, false, false] rfl rfl (by kernel_rfl) (by decide) (fun K hK => ?_)
          refine Kd.R_append_step (Kd.int .u8) (w0 := w1) w1.heap.size (by rfl) (.tmp 54) (.tmp 55) 30 5 (.int .u8 0) 1 rfl Try.underlying30 info_u8 rfl (by decide) (by omega) ve M 0 [.int .u8 0] (fun _ => True) (fun _ => False) rfl rfl rfl (fun _ hk => hk.elim) (fun _ _ => trivial) HOz.out HBz.out (below_size HBz.out) (by (try simp only [List.length_append]); omega) ?_
          intro vf wf ho hb hg hat
          clear hat
          have HOf := Aside0.mk ho
          have HBf := Aside0.mk hb
          have HXf := Aside0.mk (show wf.heap[B]? = some (.cells #[.int .i64 f0, .int .u64 f1, .bool false, .slice A4 f3.length c4] 87 (0, 0)) from (hg.block B (blk_lt HXz.out) (Kd.R_ne HOz.out HXz.out (by decide))).trans HXz.out)
          clear ho hb hg
          refine hK.out _ _ (((blk_cell HXf.out 3).trans rfl)) (fun hHeld => ?_)
          clear hK K
          refine norm_ (a' := ?_) ?_ ?_
          rotate_left
          · show Act.put _ (some 56) _ = _
            simp only [Act.put, List.setIfInBounds_toArray, List.set_cons_zero, List.set_cons_succ, i64_w, i32_w]
            rfl
          refine one_ (i := 5) (N := some 59) #[true, true, true, true, true, true, false, false] rfl rfl (by kernel_rfl) (by decide) (fun K hK => ?_)
          refine goes_ Try.func41 (by kernel_rfl) rfl #[.slice A4 f3.length c4] (by rfl) rfl rfl (by simp only [List.map_toArray, List.map_cons, List.map_nil]; rfl) ?_
          with_reducible refine ((HVC.out _ (Kd.C_below HCW.out HBf.out))).mono ?_
          rintro e wg ⟨vg, rfl, ho, hb⟩
          have HBg := Aside0.mk (below_step HBf.out hb)
          have HOg := Aside0.mk (Kd.R_below HOf.out hb)
          have HXg := Aside0.mk (blk_below HXf.out hb)
          obtain ⟨Ag, cg, hvg, hcg, hCg⟩ := Kd.R_reads ho
          subst hvg
          have HCg := Aside0.mk hCg
          clear ho hb hcg hCg
          refine ⟨_, rfl, ?_⟩
          refine hK.out _ _ (((blk_cell HXg.out 3).trans rfl)) (fun hHeld => ?_)
          clear hK K
          refine norm_ (a' := ?_) ?_ ?_
          rotate_left
          · show Act.put _ (some 59) _ = _
            simp only [Act.put, List.setIfInBounds_toArray, List.set_cons_zero, List.set_cons_succ, i64_w, i32_w]
            rfl
          refine one_ (i := 6) (N := some 60) #[true, true, true, true, true, true, true, false] rfl rfl (by kernel_rfl) (by decide) (fun K hK => ?_)
          refine Kd.R_append_rows_step (Kd.int .u8) (w0 := w1) w1.heap.size (by rfl) (.tmp 56) (.tmp 59) 30 5 (.int .u8 0) 1 rfl Try.underlying30 info_u8 rfl (by decide) (by omega) vf (M ++ [0]) vv _ _ _ (fun _ => True) (fun _ => False) rfl rfl HOg.out HCg.out (fun _ _ h => h) (fun _ h => h.elim) (fun _ _ => trivial) HBg.out (below_size HBg.out) (by simp only [List.length_append, List.length_cons, List.length_nil]; omega) ?_
          intro vh wh ho hb hg hat
          clear hat
          rw [List.append_assoc, HNX2.out] at ho
          have HOh := Aside0.mk ho
          have HBh := Aside0.mk hb
          have HXh := Aside0.mk (show wh.heap[B]? = some (.cells #[.int .i64 f0, .int .u64 f1, .bool false, .slice A4 f3.length c4] 87 (0, 0)) from (hg.block B (blk_lt HXg.out) (Kd.R_ne HOg.out HXg.out (by decide))).trans HXg.out)
          clear ho hb hg
          refine hK.out _ _ (((blk_cell HXh.out 3).trans rfl)) (fun hHeld => ?_)
          clear hK K
          refine norm_ (a' := ?_) ?_ ?_
          rotate_left
          · show Act.put _ (some 60) _ = _
            simp only [Act.put, List.setIfInBounds_toArray, List.set_cons_zero, List.set_cons_succ, i64_w, i32_w]
            rfl
          refine pure_ (i := 7) (N := some 3) (v := ?_) (a' := ?_) #[true, true, true, true, true, true, true, true] rfl rfl (by kernel_rfl) (fun _ _ _ h => h) (Or.inl ⟨by rfl, ?_⟩) ?_ ?_
          rotate_left
          · intro w'
            go_simp
            with_reducible rfl
          rotate_left
          · simp only [Act.put, List.setIfInBounds_toArray, List.set_cons_zero, List.set_cons_succ, i64_w, i32_w]
            rfl
          refine done_ (by kernel_rfl) ?_
          go_wp2_with fail
          go_roundg (l5.length - (kk + 1))
          case measure => omega
          case rel => exact ⟨kk + 1, by omega, by omega, by go_num, HOh, HBh⟩
      · have hltz : ¬ (kk : Int) < (l5.length : Int) := by omega
        have hn := HOk.out
        rw [List.take_of_length_le (by omega), HRBF.out] at hn
        have HN := Aside0.mk hn
        clear hn
        go_wp2_with fail
        exact tail _ _ _ _ _ _ _ _ _ _ _ _ _ _ _ _ _ _ _ _ _ _ _ _ _ _ _ _ _ _ _ _ _ _ _ _ _ _ _ _ _ _ _ _ _ _ _ _ _ _ _ _ _ _ _ _ _ _ _ _ _ _ _ _ _ _ _ _ _ _ _ _ _ _ _ _ _ _ _ _ _ _ _ _ _ _ _ _ _ _ _ _ _ _ _ _ _ _ _ _ _ _ _ _ _ _ rfl HN HBk
  by_cases k4 : a0 = 4
  · subst k4
    obtain ⟨hv, hlv⟩ : (∀ v ∈ l6, right v = true) ∧ l6.length ≤ 100 := by
      rcases HKINDS.out with h | h | h | h | h
      · exact absurd h.1 (by decide)
      · exact absurd h.1 (by decide)
      · exact absurd h.1 (by decide)
      · exact h.2
      · exact absurd h.1 (by decide)
    have HV := Aside0.mk hv
    have HLV := Aside0.mk hlv
    clear HKINDS hv hlv
    have q3 : w2.cell? ⟨W.heap.size, 3, none⟩ = some (.int .i64 a3) := ((blk_cell (blk_below HX1.out HB2.out) 3).trans rfl)
    have q6 : w2.cell? ⟨W.heap.size, 6, none⟩ = some (.slice A6 l6.length c6) := ((blk_cell (blk_below HX1.out HB2.out) 6).trans rfl)
    obtain ⟨l2, hl2⟩ : ∃ l2 : List Int, l2 = [a3 % 256, (l6.length : Int) % 256] := ⟨_, rfl⟩
    have hl2l : l2.length ≤ 2 := by rw [hl2]; exact Nat.le_refl 2
    have HL2 := Aside0.mk hl2
    clear hl2
    go_upto_region 20 with (first
      | ((with_reducible refine gate_dst (N := 91) rfl ?_); refine Kd.R_lit (Kd.int .u8) (w0 := w2) w2.heap.size 5 ?hg (N := 91) ?hd (xs := ([a3 % 256, (l6.length : Int) % 256] : List Int)) (inner := [.int .u8 (a3 % 256), .int .u8 ((l6.length : Int) % 256)]) (ok := fun _ => True) (okp := fun _ => True) ?hr ?hp (fun _ hk => hk) trivial (Below.refl _ _) (Nat.le_refl _) (by simp) ?_; (case hd => rfl); (case hg => rfl); (case hr => first | (go_simp; done) | (go_simp; rfl)); (case hp => exact (Reps.one (show Kd.M (Kd.int .u8) _ _ _ (a3 % 256) [.int .u8 (a3 % 256)] from rfl) (Reps.one (show Kd.M (Kd.int .u8) _ _ _ ((l6.length : Int) % 256) [.int .u8 ((l6.length : Int) % 256)] from rfl) (Reps.none _ _)))); intro vl w4 ho hb hg hnew; clear hg hnew; rw [← HL2.out] at ho; obtain ⟨Al, cl, hvl, hcl, hCl⟩ := Kd.R_reads ho; subst hvl; have HCl := Aside0.mk hCl; have HO4 := Aside0.mk (Kd.R_below HO2.out hb); have HB4 := Aside0.mk (below_step HB2.out hb); clear ho hb hcl hCl)
      | ((with_reducible refine gate_builtin (b := .append) (xs := #[.tmp 83, .tmp 91]) rfl ?_); at_builtin; refine Kd.R_append_rows (Kd.int .u8) (w0 := w1) w1.heap.size rfl (.tmp 83) (.tmp 91) 30 5 (.int .u8 0) 1 rfl Try.underlying30 info_u8 rfl (by decide) (by omega) v3 b0 l2 _ _ _ (fun _ => True) (fun _ => False) rfl rfl HO4.out HCl.out (fun _ _ h => h) (fun _ h => h.elim) (fun _ _ => trivial) HB4.out (below_size HB4.out) (by (try simp only [List.length_append]); omega) ?_; intro v5 w5 ho hb hg hat; clear hg hat; have HO5 := Aside0.mk ho; have HB5 := Aside0.mk hb; clear ho hb))
    have HRBF := Aside0.mk (show b0 ++ l2 ++ vecsB l6 = recB 4 a1 a2 a3 a4 l5 l6 by rw [HB0.out, HL2.out]; rfl)
    obtain ⟨b1, hb1⟩ : ∃ b1, b1 = b0 ++ l2 := ⟨_, rfl⟩
    have hb1l : b1.length ≤ 3 := by rw [hb1, List.length_append]; omega
    rw [← hb1] at HRBF HO5
    clear hb1 q3 q6
    have q6 : w5.cell? ⟨W.heap.size, 6, none⟩ = some (.slice A6 l6.length c6) := ((blk_cell (blk_below HX1.out HB5.out) 6).trans rfl)
    go_wp2_with fail
    go_loopg [3, 7, 96] l6.length (fun gg v3 _ s96 wr => ∃ kk : Nat, kk ≤ l6.length ∧ l6.length - kk ≤ gg ∧ s96 = .int .i64 kk ∧ Aside0 (Kd.R (Kd.int .u8) 5 wr w1.heap.size (fun _ => True) v3 (b1 ++ vecsB (l6.take kk))) ∧ Aside0 (Below w1.heap.size w1 wr))
    case atStart => exact ⟨0, by omega, by omega, rfl, ⟨by simpa [vecsB] using HO5.out⟩, HB5⟩
    case round =>
      obtain ⟨kk, hkk, hg, rfl, HOk, HBk⟩ := hrel
      obtain ⟨wo, rfl⟩ : ∃ wo, wo = wr := ⟨_, rfl⟩
      by_cases hlt : kk < l6.length
      · have hltz : (kk : Int) < (l6.length : Int) := by omega
        obtain ⟨ad, A4, c4, hA, p0, hl4, hC4⟩ := P.at_L4 (Kd.C_below HC6.out HBk.out) (kk : Int) (by omega) (by omega)
        subst hA
        simp only [Int.toNat_natCast] at p0
        have hxe : P.rd_L4 l6 (kk : Int) = l6[kk] := by rw [rd_getD]; exact getD_of_lt l6 kk _ hlt
        have hrt : right (P.rd_L4 l6 (kk : Int)) = true := by rw [hxe]; exact HV.out _ (List.getElem_mem hlt)
        have hL : (b1 ++ vecsB (l6.take kk)).length ≤ 10000 := by
          have hlv := HLV.out
          have := vecsB_le (l6.take kk) (fun v hv => HV.out v (List.mem_of_mem_take hv))
          rw [List.length_take] at this
          rw [List.length_append]
          omega
        have HNX := Aside0.mk (show b1 ++ vecsB (l6.take kk) ++ vecB (P.rd_L4 l6 (kk : Int)) = b1 ++ vecsB (l6.take (kk + 1)) by
          rw [hxe, List.take_succ_eq_append_getElem hlt]; unfold vecsB; rw [List.map_append, List.flatten_append, List.append_assoc]; simp)
        have hr4 := (right_range hrt).1
        have hvl : (vecB (P.rd_L4 l6 (kk : Int))).length ≤ 17 := vecB_le hrt
        have HVC := Aside0.mk (P.quiverref07_Vec.calls ((P.rd_L4 l6 (kk : Int)).length + 12) A4 c4 (P.rd_L4 l6 (kk : Int)) (vecB (P.rd_L4 l6 (kk : Int))) wo hC4 hl4 (rvec_is _ (by omega) _ (Nat.le_refl _)))
        clear hxe hrt hr4 hC4 hl4
        generalize P.rd_L4 l6 (kk : Int) = x at *
        generalize vecB x = vb at *
        generalize b1 ++ vecsB (l6.take kk) = L at *
        go_wp2_with (first
          | (go_at_call 41; refine HVC.out.mono ?_; rintro e w7 ⟨vl, rfl, ho, hb⟩; obtain ⟨Al, cl, hvl, hcl, hCl⟩ := Kd.R_reads ho; subst hvl; have HCl := Aside0.mk hCl; have HO7 := Aside0.mk (Kd.R_below HOk.out hb); have HB7 := Aside0.mk (below_step HBk.out hb); clear ho hb hcl hCl)
          | ((with_reducible refine gate_builtin (b := .append) (xs := #[.tmp 100, .tmp 102]) rfl ?_); at_builtin; refine Kd.R_append_rows (Kd.int .u8) (w0 := w1) w1.heap.size rfl (.tmp 100) (.tmp 102) 30 5 (.int .u8 0) 1 rfl Try.underlying30 info_u8 rfl (by decide) (by omega) u3 L vb _ _ _ (fun _ => True) (fun _ => False) rfl rfl HO7.out HCl.out (fun _ _ h => h) (fun _ h => h.elim) (fun _ _ => trivial) HB7.out (below_size HB7.out) (by (try simp only [List.length_append]); omega) ?_; intro v8 w8 ho hb hg hat; clear hg hat; rw [HNX.out] at ho; have HO8 := Aside0.mk ho; have HB8 := Aside0.mk hb; clear ho hb))
        go_roundg (l6.length - (kk + 1))
        case measure => omega
        case rel => exact ⟨kk + 1, by omega, by omega, by go_num, HO8, HB8⟩
      · have hltz : ¬ (kk : Int) < (l6.length : Int) := by omega
        have hn := HOk.out
        rw [List.take_of_length_le (by omega), HRBF.out] at hn
        have HN := Aside0.mk hn
        clear hn
        go_wp2_with fail
        exact tail _ _ _ _ _ _ _ _ _ _ _ _ _ _ _ _ _ _ _ _ _ _ _ _ _ _ _ _ _ _ _ _ _ _ _ _ _ _ _ _ _ _ _ _ _ _ _ _ _ _ _ _ _ _ _ _ _ _ _ _ _ _ _ _ _ _ _ _ _ _ _ _ _ _ _ _ _ _ _ _ _ _ _ _ _ _ _ _ _ _ _ _ _ _ _ _ _ _ _ _ _ _ _ _ _ _ rfl HN HBk
  have k5 : a0 = 5 := by
    rcases HKINDS.out with h | h | h | h | h
    · exact absurd h.1 k1
    · exact absurd h.1 k2
    · exact absurd h.1 k3
    · exact absurd h.1 k4
    · exact h.1
  subst k5
  have HH := Aside0.mk (high8 a2)
  have HFIN := Aside0.mk (show b0 ++ putBytes 8 a2 = recB 5 a1 a2 a3 a4 l5 l6 by rw [HB0.out]; rfl)
  have hp8 : (putBytes 8 a2).length ≤ 8 := Nat.le_of_eq (put8_len a2)
  generalize putBytes 8 a2 = p8 at *
  have q2 : w2.cell? ⟨W.heap.size, 2, none⟩ = some (.int .u64 a2) := ((blk_cell (blk_below HX1.out HB2.out) 2).trans rfl)
  clear HKINDS k1 k2 k3 k4
  go_wp2_with (first
    | (go_at_call 101; refine (HH.out _).mono ?_; rintro e w4 ⟨vl, rfl, ho, hb⟩; obtain ⟨Al, cl, hvl, hcl, hCl⟩ := Kd.R_reads ho; subst hvl; have HCl := Aside0.mk hCl; have HO4 := Aside0.mk (Kd.R_below HO2.out hb); have HB4 := Aside0.mk (below_step HB2.out hb); clear ho hb hcl hCl)
    | ((with_reducible refine gate_builtin (b := .append) (xs := #[.tmp 14, .tmp 17]) rfl ?_); at_builtin; refine Kd.R_append_rows (Kd.int .u8) (w0 := w1) w1.heap.size rfl (.tmp 14) (.tmp 17) 30 5 (.int .u8 0) 1 rfl Try.underlying30 info_u8 rfl (by decide) (by omega) v3 b0 p8 _ _ _ (fun _ => True) (fun _ => False) rfl rfl HO4.out HCl.out (fun _ _ h => h) (fun _ h => h.elim) (fun _ _ => trivial) HB4.out (below_size HB4.out) (by (try simp only [List.length_append]); omega) ?_; intro v5 w5 ho hb hg hat; clear hg hat; have HO5 := Aside0.mk ho; have HB5 := Aside0.mk hb; clear ho hb))
  exact tail _ _ _ _ _ _ _ _ _ _ _ _ _ _ _ _ _ _ _ _ _ _ _ _ _ _ _ _ _ _ _ _ _ _ _ _ _ _ _ _ _ _ _ _ _ _ _ _ _ _ _ _ _ _ _ _ _ _ _ _ _ _ _ _ _ _ _ _ _ _ _ _ _ _ _ _ _ _ _ _ _ _ _ _ _ _ _ _ _ _ _ _ _ _ _ _ _ _ _ _ _ _ _ _ _ _ rfl ⟨by rw [← HFIN.out]; exact HO5.out⟩ HB5
end

section
open Go.Shelf Go.RowKit Go.Proofs.YtngjaaldidmgjaaW.PrintWords Go.Proofs.YtngjaaldidmgjaaW.PrintLast Go.Proofs.YtngjaaldidmgjaaW.PrintMore
set_option linter.unusedVariables false
set_option linter.unusedSimpArgs false

set_option maxHeartbeats 4000000 in
set_option maxRecDepth 100000 in
theorem refSA (A : Option Addr) (c : Nat) (B : Option Addr) (d : Nat) (l : List Rc) (w : World) (hr : Kd.C kRc w A l.length l) (hr2 : Kd.C kRc w B l.length l) :
    Calls Try.prog 55 #[.slice A l.length c, .slice B l.length d] w fun e w' => e = .returned (.bool true) ∧ Below w.heap.size w w' := by
  have HR := Aside0.mk hr
  have HR2 := Aside0.mk hr2
  have hm := Kd.C_max hr
  have HB0 := Aside0.mk (Below.refl w.heap.size w)
  have e1 : ((l.length : Int) != (l.length : Int)) = false := by simp
  clear hr hr2
  go_enter Try.func55, Try.ntmps55
  go_wp2_with fail
  go_loopg [13] l.length (fun gg s13 wr => ∃ kk : Nat, kk ≤ l.length ∧ l.length - kk ≤ gg ∧ s13 = .int .i64 kk ∧ Aside0 (Below w.heap.size w wr))
  case atStart => exact ⟨0, Nat.zero_le _, by omega, rfl, HB0⟩
  case round =>
    obtain ⟨kk, hkk, hg, rfl, HBk⟩ := hrel
    obtain ⟨wo, rfl⟩ : ∃ wo, wo = wr := ⟨_, rfl⟩
    by_cases hlt : kk < l.length
    case neg =>
      have hltz : ¬ (kk : Int) < (l.length : Int) := by omega
      go_wp2_with fail
      go_returns
      exact ⟨rfl, HBk.out⟩
    case pos =>
      have hltz : (kk : Int) < (l.length : Int) := by omega
      obtain ⟨ad, A5, c5, A6, c6, hA, p0, p1, p2, p3, p4, p5, p6, ⟨hc5, h5⟩, hc6, h6⟩ := rc_at (Kd.C_below HR.out HBk.out) kk hlt
      obtain ⟨bd, B5, d5, B6, d6, hB, q0, q1, q2, q3, q4, q5, q6, ⟨hd5, g5⟩, hd6, g6⟩ := rc_at (Kd.C_below HR2.out HBk.out) kk hlt
      subst hA hB
      generalize l[kk] = x at *
      have HS := Aside0.mk (fun (p : Gr wo) => show Calls Try.prog 48 #[.agg (rcL x A5 c5 A6 c6), .agg (rcL x B5 d5 B6 d6)] p.w fun e w' => e = .returned (.bool true) ∧ Below p.w.heap.size p.w w' by
        have := refRS x x A5 c5 A6 c6 B5 d5 B6 d6 p.w (Kd.C_below h5 p.h) (Kd.C_below h6 p.h) (Kd.C_below g5 p.h) (Kd.C_below g6 p.h)
        rwa [sameR_self] at this)
      have X0 := fun p => Gr.cell p0 p
      have X1 := fun p => Gr.cell p1 p
      have X2 := fun p => Gr.cell p2 p
      have X3 := fun p => Gr.cell p3 p
      have X4 := fun p => Gr.cell p4 p
      have X5 := fun p => Gr.cell p5 p
      have X6 := fun p => Gr.cell p6 p
      have Y0 := fun p => Gr.cell q0 p
      have Y1 := fun p => Gr.cell q1 p
      have Y2 := fun p => Gr.cell q2 p
      have Y3 := fun p => Gr.cell q3 p
      have Y4 := fun p => Gr.cell q4 p
      have Y5 := fun p => Gr.cell q5 p
      have Y6 := fun p => Gr.cell q6 p
      clear p0 p1 p2 p3 p4 p5 p6 q0 q1 q2 q3 q4 q5 q6 h5 h6 g5 g6 hc5 hc6 hd5 hd6
      go_upto_region 6 with (fail)
      refine wp_region_gr (by kernel_rfl) (by kernel_rfl) ?_
      repeat (go_big_quiet_step ((go_at_call 48; exact Calls.gr_of (HS.out _))))
      refine wpQuiet_nil ?_
      intro w9 hw'
      have HB9 := Aside0.mk (below_step HBk.out (show Below wo.heap.size wo w9 by obtain ⟨p, rfl⟩ := hw'; exact p.h))
      clear hw' X0 X1 X2 X3 X4 X5 X6 Y0 Y1 Y2 Y3 Y4 Y5 Y6 HS
      go_wp2_with fail
      go_roundg (l.length - (kk + 1))
      case measure => omega
      case rel => exact ⟨kk + 1, by omega, by omega, by go_num, HB9⟩

theorem allB_next {l : List Rc} {k : Nat} (h : k < l.length) : allB (l.take (k + 1)) = allB (l.take k) ++ (putBytes 2 ((recBs l[k]).length : Int) ++ recBs l[k]) := by
  unfold allB
  rw [List.take_succ_eq_append_getElem h, List.map_append, List.flatten_append]
  simp [lenB]
theorem allB_le2 (l : List Rc) (h : ∀ r ∈ l, recOk r = true) : (allB l).length ≤ 4002 * l.length := by
  induction l with
  | nil => exact Nat.le_refl _
  | cons r l ih =>
    have h1 := recBs_le (h r (List.mem_cons_self ..))
    have h2 := ih (fun x hx => h x (List.mem_cons_of_mem _ hx))
    have h3 : (lenB r).length ≤ 4002 := by unfold lenB; rw [List.length_append, put2_len]; omega
    unfold allB at h2 ⊢
    rw [List.map_cons, List.flatten_cons, List.length_append, List.length_cons]
    omega

set_option maxHeartbeats 4000000 in
set_option maxRecDepth 100000 in
theorem refAll (A : Option Addr) (c : Nat) (l : List Rc) (w1 : World) (hr : Kd.C kRc w1 A l.length l) (hok : ∀ r ∈ l, recOk r = true) (hl : l.length ≤ 1000) :
    Calls Try.prog 53 #[.slice A l.length c] w1 fun e w' => ∃ v, e = .returned v ∧ Kd.R (Kd.int .u8) 5 w' w1.heap.size (fun _ => True) v (allB l) ∧ Below w1.heap.size w1 w' := by
  have HR := Aside0.mk hr
  have HOK := Aside0.mk hok
  have HB0 := Aside0.mk (Below.refl w1.heap.size w1)
  have HN0 := Aside0.mk (show Kd.R (Kd.int .u8) 5 w1 w1.heap.size (fun _ => True) (.slice none 0 0) [] from Kd.R_nil _ _ _ _ _)
  clear hr hok
  go_enter Try.func53, Try.ntmps53
  go_wp2_with fail
  go_loopg [3, 9] l.length (fun gg v3 s9 wr => ∃ kk : Nat, kk ≤ l.length ∧ l.length - kk ≤ gg ∧ s9 = .int .i64 kk ∧ Aside0 (Kd.R (Kd.int .u8) 5 wr w1.heap.size (fun _ => True) v3 (allB (l.take kk))) ∧ Aside0 (Below w1.heap.size w1 wr))
  case atStart => exact ⟨0, Nat.zero_le _, by omega, rfl, HN0, HB0⟩
  case round =>
    obtain ⟨kk, hkk, hg, rfl, HOk, HBk⟩ := hrel
    obtain ⟨wo, rfl⟩ : ∃ wo, wo = wr := ⟨_, rfl⟩
    by_cases hlt : kk < l.length
    case neg =>
      have hltz : ¬ (kk : Int) < (l.length : Int) := by omega
      have hn := HOk.out
      rw [List.take_of_length_le (by omega)] at hn
      have HN := Aside0.mk hn
      clear hn
      go_wp2_with fail
      go_returns
      exact ⟨_, rfl, HN.out, HBk.out⟩
    case pos =>
      have hltz : (kk : Int) < (l.length : Int) := by omega
      obtain ⟨ad, A5, c5, A6, c6, hA, p0, p1, p2, p3, p4, p5, p6, ⟨hc5, h5⟩, hc6, h6⟩ := rc_at (Kd.C_below HR.out HBk.out) kk hlt
      subst hA
      have hok := HOK.out _ (List.getElem_mem hlt)
      have hL : (allB (l.take kk)).length ≤ 5000000 := by
        have := allB_le2 (l.take kk) (fun r hx => HOK.out r (List.mem_of_mem_take hx))
        rw [List.length_take] at this
        omega
      have HNX := Aside0.mk (allB_next hlt)
      have hbl := recBs_le hok
      generalize l[kk] = x at *
      generalize allB (l.take kk) = L at *
      obtain ⟨wb, hwb⟩ : ∃ wb, wb = wo.alloc (.cells (rcL x A5 c5 A6 c6) 28) := ⟨_, rfl⟩
      obtain ⟨B5, hB5⟩ : ∃ B5, B5 = wo.heap.size := ⟨_, rfl⟩
      have hob : Below wo.heap.size wo wb := by rw [hwb]; exact below_alloc (Below.refl _ _) _
      have HX := Aside0.mk (show wb.heap[B5]? = some (.cells (rcL x A5 c5 A6 c6) 28 (0, 0)) by rw [hwb, hB5]; exact heap_alloc_new _ _)
      have HBY := Aside0.mk (refBytes x A5 c5 A6 c6 wb (Kd.C_below h5 hob) (Kd.C_below h6 hob) hok)
      have HBb := Aside0.mk (below_step HBk.out hob)
      have HOb := Aside0.mk (Kd.R_below HOk.out hob)
      have HW := Aside0.mk (show wo.alloc (.cells (rcL x A5 c5 A6 c6) 28) = wb from hwb.symm)
      have HB5 := Aside0.mk (show wo.heap.size = B5 from hB5.symm)
      have HH2 := Aside0.mk (fun (W : World) => show Calls Try.prog 101 #[.int .u64 ((recBs x).length : Int), .int .i64 2] W fun e w' => ∃ v0_ : Value, e = .returned (v0_) ∧ Kd.R (Kd.int .u8) 5 w' W.heap.size (fun _ => True) v0_ (putBytes 2 ((recBs x).length : Int)) ∧ Below W.heap.size W w' from P.quiverref24_high.calls 9 _ 2 _ W (high24_is 2 (by omega) (by omega) _ 9 (by omega)))
      have hp2 : (putBytes 2 ((recBs x).length : Int)).length ≤ 2 := Nat.le_of_eq (put2_len _)
      generalize recBs x = bx at *
      generalize putBytes 2 (bx.length : Int) = p2 at *
      clear hwb hB5 hob h5 h6 hok hc5 hc6
      go_upto_region 5 with (fail)
      rw [HW.out, HB5.out]
      clear p0 p1 p3 p4 p5 p6 HW HB5
      obtain ⟨x0, x1, x2, x3, x4, x5, x6⟩ := rcF HX.out
      go_wp2_with (first
        | (go_at_call 52; refine HBY.out.mono ?_; rintro e wc ⟨vb, rfl, ho, hb⟩; obtain ⟨Ab, cb, hvb, hcb, hCb⟩ := Kd.R_reads ho; subst hvb; have HRb := Aside0.mk ho; have HOc := Aside0.mk (Kd.R_below HOb.out hb); have HBc := Aside0.mk (below_step HBb.out hb); clear ho hb hcb hCb)
        | (go_at_call 101; refine (HH2.out _).mono ?_; rintro e wd ⟨vh, rfl, ho, hb⟩; obtain ⟨Ah, ch, hvh, hch, hCh⟩ := Kd.R_reads ho; subst hvh; have HCh := Aside0.mk hCh; have HOd := Aside0.mk (Kd.R_below HOc.out hb); have HBd := Aside0.mk (below_step HBc.out hb); have HRd := Aside0.mk (Kd.R_below HRb.out hb); clear ho hb hch hCh)
        | ((with_reducible refine gate_builtin (b := .append) (xs := #[.tmp 15, .tmp 19]) rfl ?_); at_builtin; refine Kd.R_append_rows (Kd.int .u8) (w0 := w1) w1.heap.size rfl (.tmp 15) (.tmp 19) 30 5 (.int .u8 0) 1 rfl Try.underlying30 info_u8 rfl (by decide) (by omega) u3 L p2 _ _ _ (fun _ => True) (fun _ => False) rfl rfl HOd.out HCh.out (fun _ _ h => h) (fun _ h => h.elim) (fun _ _ => trivial) HBd.out (below_size HBd.out) (by omega) ?_; intro ve we ho hb hg hat; clear hat; have HOe := Aside0.mk ho; have HBe := Aside0.mk hb; have hfr : Fr (fun k => k < wb.heap.size) wd we := Fr.of_grown hg (fun k hk => .inl ((Kd.R_bound HOb.out).1 k hk).2.2.1); have hre := Kd.R_kept (Kd.R_bound HRd.out) hfr.kept (fun k hk hS => by have h1 := hk.2.1; omega); have HCe := Aside0.mk (Kd.R_reads' hre).2.2; clear ho hb hg hfr hre)
        | ((with_reducible refine gate_builtin (b := .append) (xs := #[.tmp 20, .tmp 21]) rfl ?_); at_builtin; refine Kd.R_append_rows (Kd.int .u8) (w0 := w1) w1.heap.size rfl (.tmp 20) (.tmp 21) 30 5 (.int .u8 0) 1 rfl Try.underlying30 info_u8 rfl (by decide) (by omega) ve (L ++ p2) bx _ _ _ (fun _ => True) (fun _ => False) rfl rfl HOe.out HCe.out (fun _ _ h => h) (fun _ h => h.elim) (fun _ _ => trivial) HBe.out (below_size HBe.out) (by simp only [List.length_append]; omega) ?_; intro vf wf ho hb hg hat; clear hat hg; rw [List.append_assoc, ← HNX.out] at ho; have HOf := Aside0.mk ho; have HBf := Aside0.mk hb; clear ho hb))
      go_roundg (l.length - (kk + 1))
      case measure => omega
      case rel => exact ⟨kk + 1, by omega, by omega, by go_num, HOf, HBf⟩
end

section
open Go.Shelf Go.RowKit Go.Proofs.YtngjaaldidmgjaaW.PrintWords Go.Proofs.YtngjaaldidmgjaaW.PrintLast Go.Proofs.YtngjaaldidmgjaaW.PrintMore
set_option linter.unusedVariables false
set_option linter.unusedSimpArgs false

theorem own_short {bs : List Int} {pl : Nat} (h : (bs.drop pl).length < 2) : decOk (ownB bs pl) = false := by
  rw [List.length_drop] at h
  have hf : fits bs.length pl false 2 = false := fits_no _ _ _ (by omega)
  have : ownB bs pl = [] := by unfold ownB; rw [scBad_no hf]; exact scTake_no (fits_bad _ _ _)
  rw [this]; rfl
/-- A record's length, as it lies. -/
def lenN (r : List Int) : Int := 2 + r.getD 0 0 * 256 + r.getD 1 0
theorem own_num {bs : List Int} {pl : Nat} (h : 2 ≤ (bs.drop pl).length) : ownN bs pl = lenN (bs.drop pl) - 2 ∧ scPl bs.length pl false 2 = pl + 2 ∧ scBad bs.length pl false 2 = false := by
  rw [List.length_drop] at h
  have hf : fits bs.length pl false ((2 : Nat) : Int) = true := fits_yes bs pl 2 (by omega) (by omega)
  refine ⟨?_, scPl_yes hf, scBad_yes hf⟩
  unfold ownN lenN
  have : scTake bs pl false 2 = (bs.drop pl).take 2 := scTake_yes hf
  rw [this]
  have hl : 2 ≤ (bs.drop pl).length := by rw [List.length_drop]; omega
  generalize bs.drop pl = r at *
  match r, hl with
  | a :: b :: t, _ => simp [num]; omega
theorem own_more {bs : List Int} {pl : Nat} (h : 2 ≤ (bs.drop pl).length) (h2 : ((bs.drop pl).length : Int) < lenN (bs.drop pl)) : decOk (ownB bs pl) = false := by
  obtain ⟨h3, h4, h5⟩ := own_num h
  rw [List.length_drop] at h h2
  have hf : fits bs.length (pl + 2) false (ownN bs pl) = false := fits_no _ _ _ (by omega)
  have : ownB bs pl = [] := by unfold ownB; rw [h4, h5]; exact scTake_no hf
  rw [this]; rfl
theorem own_is {bs : List Int} {pl : Nat} (n : Nat) (hn : lenN (bs.drop pl) = (n : Int)) (h1 : 2 ≤ n) (h : 2 ≤ (bs.drop pl).length) (h2 : n ≤ (bs.drop pl).length) : ownB bs pl = ((bs.drop pl).take n).drop 2 ∧ ownPl bs pl = pl + n := by
  obtain ⟨h3, h4, h5⟩ := own_num h
  have hN : ownN bs pl = ((n - 2 : Nat) : Int) := by omega
  rw [List.length_drop] at h h2
  have hf : fits bs.length (pl + 2) false ((n - 2 : Nat) : Int) = true := fits_yes bs (pl + 2) (n - 2) (by omega) (by omega)
  constructor
  · unfold ownB
    rw [h4, h5, hN, scTake_yes hf, List.drop_take, List.drop_drop]
  · unfold ownPl
    rw [h4, h5, hN, scPl_yes hf]
    omega
theorem parse_endR {bs : List Int} {k pl : Nat} {xs : List Rc} {R : Option (List Rc)} (h : R = (parseGo bs (k + 1) pl).map (fun l => xs ++ l)) (hle : bs.length ≤ pl) : R = some xs := by
  rw [h, parseGo, if_pos hle]
  simp
theorem parse_noR {bs : List Int} {k pl : Nat} {xs : List Rc} {R : Option (List Rc)} (h : R = (parseGo bs (k + 1) pl).map (fun l => xs ++ l)) (hlt : pl < bs.length) (hok : decOk (ownB bs pl) = false) : R = none := by
  rw [h, parseGo, if_neg (by omega), if_neg (by rw [hok]; decide)]
  rfl
theorem cut_both (A : Option Addr) (c : Nat) (l : List Int) (n : Nat) (h2 : 2 ≤ n) (hn : n ≤ l.length) (hc : l.length ≤ c) : ∃ A', (∀ W : World, (Instr.slice 30 (.slice A l.length c) (some (.int .i64 2)) (some (.int .i64 (n : Int))) none).run Try.prog W = .ok (.slice A' ((l.take n).drop 2).length (c - 2)) W) ∧
    (∀ W, Kd.C (Kd.int .u8) W A l.length l → Kd.C (Kd.int .u8) W A' ((l.take n).drop 2).length ((l.take n).drop 2)) ∧ ((l.take n).drop 2).length ≤ c - 2 := by
  obtain ⟨i0, hi0, _, hsz0, _⟩ := info_parts info_u8
  obtain ⟨A1, h1, h3, _⟩ := print_mid_of (P := Try.prog) (Value.int .u8) 0 30 5 .i64 .i64 Try.underlying30 hi0 hsz0 A c l 2 (n : Int) (by omega) (by omega) (by omega) (by omega)
  refine ⟨A1, ?_, ?_, by rw [List.length_drop, List.length_take]; omega⟩
  · intro W
    have := h1 W
    exact this
  · intro W hC
    have := h3 W (Kd.reads_of_C hC)
    exact Kd.C_of_reads (h1 := fun _ => rfl) this
end

section
open Go.Shelf Go.RowKit Go.Proofs.YtngjaaldidmgjaaW.PrintWords Go.Proofs.YtngjaaldidmgjaaW.PrintLast Go.Proofs.YtngjaaldidmgjaaW.PrintMore
set_option linter.unusedVariables false
set_option linter.unusedSimpArgs false

def RParsePost (bs : List Int) (w : World) (e : Ending) (w' : World) : Prop :=
  (∀ l, parseR bs = some l → ∃ v, e = .returned (.tuple #[v, .bool true]) ∧ Kd.N kRc 28 w' w.heap.size (fun k => w.heap.size ≤ k) v l) ∧
  (parseR bs = none → e = .returned (.tuple #[.slice none 0 0, .bool false])) ∧ Below w.heap.size w w'
theorem RParsePost.no {bs : List Int} {w w' : World} (h : parseR bs = none) (hb : Below w.heap.size w w') : RParsePost bs w (.returned (.tuple #[.slice none 0 0, .bool false])) w' :=
  ⟨fun l hl => (by rw [h] at hl; cases hl), fun _ => rfl, hb⟩
theorem RParsePost.yes {bs : List Int} {w w' : World} {xs : List Rc} {v : Value} (h : parseR bs = some xs) (hn : Kd.N kRc 28 w' w.heap.size (fun k => w.heap.size ≤ k) v xs) (hb : Below w.heap.size w w') : RParsePost bs w (.returned (.tuple #[v, .bool true])) w' :=
  ⟨fun l hl => (by rw [h] at hl; obtain rfl := Option.some.inj hl; exact ⟨_, rfl, hn⟩), fun hl => (by rw [h] at hl; cases hl), hb⟩

set_option maxHeartbeats 4000000 in
set_option maxRecDepth 100000 in
theorem refParse (A : Option Addr) (c : Nat) (bs : List Int) (w : World) (hr : Kd.C (Kd.int .u8) w A bs.length bs) (hc : bs.length ≤ c) (hl : bs.length ≤ 1000) (hby : ∀ x ∈ bs, isB x) :
    Calls Try.prog 54 #[.slice A bs.length c] w (RParsePost bs w) := by
  have HBY := Aside0.mk hby
  have HC0 := Aside0.mk hr
  have HCC0 := Aside0.mk hc
  clear hr hby hc
  obtain ⟨R, hR⟩ : ∃ R, R = parseR bs := ⟨_, rfl⟩
  have HPR := Aside0.mk hR
  have HRS := Aside0.mk (show R = (parseGo bs (bs.length + 1) 0).map (fun l => [] ++ l) by rw [hR]; unfold parseR; cases parseGo bs (bs.length + 1) 0 <;> rfl)
  clear hR
  go_enter Try.func54, Try.ntmps54
  go_wp2_with fail
  go_loopg [0, 4] bs.length (fun gg v0 v4 wr => ∃ (pl : Nat) (xs : List Rc) (kf : Nat) (Ak : Option Addr) (ck : Nat), pl ≤ bs.length ∧ bs.length - pl ≤ gg ∧ v0 = .slice Ak (bs.drop pl).length ck ∧ Aside0 ((bs.drop pl).length ≤ ck) ∧ Aside0 (Kd.C (Kd.int .u8) w Ak (bs.drop pl).length (bs.drop pl)) ∧ Aside0 (xs.length ≤ pl) ∧ Aside0 (bs.length - pl ≤ kf ∧ R = (parseGo bs (kf + 1) pl).map (fun l => xs ++ l)) ∧ Aside0 (Kd.N kRc 28 wr w.heap.size (fun k => w.heap.size ≤ k) v4 xs) ∧ Aside0 (Below w.heap.size w wr))
  case atStart => exact ⟨0, [], bs.length, A, c, by omega, by omega, rfl, HCC0, HC0, ⟨Nat.zero_le _⟩, ⟨Nat.sub_le _ _, HRS.out⟩, ⟨Kd.N_nil _ _ _ _ _⟩, ⟨Below.refl _ _⟩⟩
  case round =>
    obtain ⟨pl, xs, kf, Ak, ck, hpl, hg, rfl, HCK, HCr, HXL, HRk, HOk, HBk⟩ := hrel
    obtain ⟨wo, rfl⟩ : ∃ wo, wo = wr := ⟨_, rfl⟩
    by_cases hlt : pl < bs.length
    case neg =>
      have hres := parse_endR HRk.out.2 (by omega)
      have HRES := Aside0.mk hres
      have hz : (bs.drop pl).length = 0 := by rw [List.length_drop]; omega
      rw [hz]
      clear hres hz HRk HCr HCK
      go_wp2_with fail
      go_returns
      exact RParsePost.yes (HPR.out.symm.trans HRES.out) HOk.out HBk.out
    case pos =>
      have hrl : (bs.drop pl).length = bs.length - pl := List.length_drop
      have hr0 : (0 : Int) < ((bs.drop pl).length : Int) := by omega
      have HSH := Aside0.mk (fun h => parse_noR HRk.out.2 hlt (own_short (bs := bs) (pl := pl) h))
      have HMO := Aside0.mk (fun h h2 => parse_noR HRk.out.2 hlt (own_more (bs := bs) (pl := pl) h h2))
      have HIS := Aside0.mk (fun n h1 h2 h3 h4 => own_is (bs := bs) (pl := pl) n h1 h2 h3 h4)
      have HST := Aside0.mk (parse_step (bs := bs) (xs := xs) (R := R) HRk.out.2 hlt)
      have HNO := Aside0.mk (fun h => parse_noR (bs := bs) (xs := xs) (R := R) HRk.out.2 hlt h)
      have HBYr := Aside0.mk (show ∀ x ∈ bs.drop pl, isB x from fun x hx => HBY.out x (List.mem_of_mem_drop hx))
      have HDR := Aside0.mk (fun n => (List.drop_drop (l := bs) (i := n) (j := pl)))
      have HLR := Aside0.mk hrl
      generalize bs.drop pl = r at *
      clear hrl
      have hm := Kd.C_max HCr.out
      by_cases h2 : r.length < 2
      · have hn := HSH.out h2
        have HN := Aside0.mk (show parseR bs = none by rw [← HPR.out]; exact hn)
        have t2 : decide ((r.length : Int) < 2) = true := decide_eq_true (by omega)
        clear hn h2
        go_upto_region 3 with (fail)
        refine wp_region_gr (by kernel_rfl) (by kernel_rfl) ?_
        repeat (go_big_quiet_step (fail))
        refine wpQuiet_nil ?_
        intro w9 hw'
        have HB9 := Aside0.mk (below_step HBk.out (show Below wo.heap.size wo w9 by obtain ⟨p, rfl⟩ := hw'; exact p.h))
        clear hw' t2
        go_wp2_with fail
        go_returns
        exact RParsePost.no HN.out HB9.out
      have t2 : decide ((r.length : Int) < 2) = false := decide_eq_false (by omega)
      obtain ⟨ad, hA, p0⟩ := Kd.at_int (Kd.C_below HCr.out HBk.out) 0 (by omega) (by omega)
      obtain ⟨ad', hA', p1⟩ := Kd.at_int (Kd.C_below HCr.out HBk.out) 1 (by omega) (by omega)
      subst hA
      obtain rfl := Option.some.inj hA'
      have hrd0 : rd r 0 = r.getD 0 0 := rfl
      have hrd1 : rd r 1 = r.getD 1 0 := rfl
      have hb0 : isB (r.getD 0 0) := HBYr.out _ (by rw [getD_of_lt r 0 _ (by omega)]; exact List.getElem_mem (by omega))
      have hb1 : isB (r.getD 1 0) := HBYr.out _ (by rw [getD_of_lt r 1 _ (by omega)]; exact List.getElem_mem (by omega))
      rw [hrd0] at p0
      rw [hrd1] at p1
      have HLN := Aside0.mk (show lenN r = 2 + r.getD 0 0 * 256 + r.getD 1 0 from rfl)
      generalize r.getD 0 0 = b0 at *
      generalize r.getD 1 0 = b1 at *
      clear hrd0 hrd1 hA'
      obtain ⟨ha0, hc0⟩ := hb0
      obtain ⟨ha1, hc1⟩ := hb1
      simp only [Int.toNat_zero, Addr.add_zero', Int.toNat_one] at p0 p1
      rw [show ad.add 1 = ⟨ad.block, ad.off + 1, none⟩ from rfl] at p1
      have P0 := fun p => Gr.cell p0 p
      have P1 := fun p => Gr.cell p1 p
      obtain ⟨n, hn⟩ : ∃ n : Nat, (n : Int) = 2 + b0 * 256 + b1 := ⟨(2 + b0 * 256 + b1).toNat, by omega⟩
      have HNN := Aside0.mk hn
      have hr1 : (1 : Int) < (r.length : Int) := by omega
      have hr1n : 1 < r.length := by omega
      clear hn
      by_cases h3 : (r.length : Int) < 2 + b0 * 256 + b1
      · have hnn := HMO.out (by omega) (by rw [HLN.out]; exact h3)
        have HN := Aside0.mk (show parseR bs = none by rw [← HPR.out]; exact hnn)
        have t3 : decide ((r.length : Int) < 2 + b0 * 256 + b1) = true := decide_eq_true h3
        clear hnn h2 h3 p0 p1
        go_upto_region 3 with (fail)
        refine wp_region_gr (by kernel_rfl) (by kernel_rfl) ?_
        repeat (go_big_quiet_step (fail))
        refine wpQuiet_nil ?_
        intro w9 hw'
        have HB9 := Aside0.mk (below_step HBk.out (show Below wo.heap.size wo w9 by obtain ⟨p, rfl⟩ := hw'; exact p.h))
        clear hw' t2 t3 P0 P1
        go_wp2_with fail
        go_returns
        exact RParsePost.no HN.out HB9.out
      have t3 : decide ((r.length : Int) < 2 + b0 * 256 + b1) = false := decide_eq_false h3
      obtain ⟨o1, o2⟩ := HIS.out n (by rw [HLN.out, HNN.out]) (by have := HNN.out; omega) (by omega) (by have := HNN.out; omega)
      obtain ⟨A2, hcut, hCr2, hlr2⟩ := cut_both (some ad) ck r n (by have := HNN.out; omega) (by have := HNN.out; omega) HCK.out
      obtain ⟨A3, hcut3, hCr3, hlr3⟩ := cut_from (some ad) ck r n (by have := HNN.out; omega) HCK.out
      have HN2 := Aside0.mk (show 2 ≤ n by have := HNN.out; omega)
      have HNR := Aside0.mk (show n ≤ r.length by have := HNN.out; omega)
      rw [HNN.out] at hcut hcut3
      have HCo := Aside0.mk (hCr2 _ HCr.out)
      have HC3 := Aside0.mk (hCr3 _ HCr.out)
      have HLo := Aside0.mk hlr2
      have HL3 := Aside0.mk hlr3
      have HBo := Aside0.mk (show ∀ x ∈ (r.take n).drop 2, isB x from fun x hx => HBYr.out x (List.mem_of_mem_take (List.mem_of_mem_drop hx)))
      have hlo : ((r.take n).drop 2).length ≤ 1000 := by have := HLR.out; rw [List.length_drop, List.length_take]; omega
      rw [o1, o2] at HST
      rw [o1] at HNO
      have HDn := Aside0.mk (HDR.out n)
      generalize (r.take n).drop 2 = own at *
      generalize hrn : r.drop n = rn at *
      clear o1 o2 hCr2 hCr3 hlr2 hlr3 h2 h3 p0 p1 hrn
      go_upto_region 3 with (fail)
      refine wp_region_gr (by kernel_rfl) (by kernel_rfl) ?_
      repeat (go_big_quiet_step (fail))
      refine wpQuiet_nil ?_
      intro w2 hw'
      have h02 : Below wo.heap.size wo w2 := by obtain ⟨p, rfl⟩ := hw'; exact p.h
      clear hw' t2 t3
      have P0' := fun p => Gr.cell (p := p) ((h02.cell (World.block_lt_of_cell? wo _ (P0 ⟨wo, Below.refl _ _⟩))).trans (P0 ⟨wo, Below.refl _ _⟩))
      have P1' := fun p => Gr.cell (p := p) ((h02.cell (World.block_lt_of_cell? wo _ (P1 ⟨wo, Below.refl _ _⟩))).trans (P1 ⟨wo, Below.refl _ _⟩))
      have H02 := Aside0.mk h02
      clear P0 P1 h02
      go_upto_region 5 with (fail)
      refine wp_region_gr (by kernel_rfl) (by kernel_rfl) ?_
      repeat (go_big_quiet_step (fail))
      refine wpQuiet_nil ?_
      intro wq hw'
      have H0q := Aside0.mk (below_step H02.out (show Below w2.heap.size w2 wq by obtain ⟨p, rfl⟩ := hw'; exact p.h))
      clear hw' P0' P1' H02
      have HWQ := Aside0.mk (Nat.le_trans (below_size HBk.out) H0q.out.size)
      have HWO := Aside0.mk H0q.out.size
      have HBq := Aside0.mk (below_step HBk.out H0q.out)
      have HRD := Aside0.mk (readU A2 (ck - 2) own wq (Kd.C_below HCo.out HBq.out) HLo.out hlo HBo.out)
      clear ha0 hc0 ha1 hc1
      go_wp2_with fail
      refine HRD.out.mono ?_
      rintro e wd ⟨z, z5, t5, z6, t6, ok, rfl, ⟨hf5, hs5⟩, ⟨hf6, hs6⟩, hok, hz, hb⟩
      obtain ⟨we, hwe⟩ : ∃ we, we = wd.alloc (.cells (rcL z z5 t5 z6 t6) 28) := ⟨_, rfl⟩
      obtain ⟨B6, hB6⟩ : ∃ B6, B6 = wd.heap.size := ⟨_, rfl⟩
      have hde : Below wd.heap.size wd we := by rw [hwe]; exact below_alloc (Below.refl _ _) _
      have hqe := below_step hb hde
      have HXe := Aside0.mk (show we.heap[B6]? = some (.cells (rcL z z5 t5 z6 t6) 28 (0, 0)) by rw [hwe, hB6]; exact heap_alloc_new _ _)
      have HB6 := Aside0.mk (show wo.heap.size ≤ B6 by rw [hB6]; exact Nat.le_trans HWO.out hb.size)
      have HBe := Aside0.mk (below_step HBq.out hqe)
      have HNe := Aside0.mk (Kd.N_below HOk.out (below_step H0q.out hqe))
      have HF5 := Aside0.mk (Kd.F_below hf5 hde)
      have HF6 := Aside0.mk (Kd.F_below hf6 hde)
      have HL5 := Aside0.mk hs5
      have HL6 := Aside0.mk hs6
      have HLT := Aside0.mk (Kd.N_lt HOk.out)
      have HOKE := Aside0.mk hok
      have HZ := Aside0.mk hz
      clear hf5 hf6 hs5 hs6 hok hz hb hde hqe
      go_upto_region 7 with (fail)
      rw [← hwe, ← hB6]
      clear hwe hB6 HRD
      cases ok with
      | false =>
        have hnn := HNO.out HOKE.out.symm
        have HN := Aside0.mk (show parseR bs = none by rw [← HPR.out]; exact hnn)
        clear hnn
        go_wp2_with fail
        go_returns
        exact RParsePost.no HN.out HBe.out
      | true =>
        have hst := HST.out HOKE.out.symm
        have hzz := HZ.out
        rw [← HOKE.out, if_pos rfl] at hzz
        rw [← hzz] at hst
        have HS2 := Aside0.mk hst
        have hxl := HXL.out
        clear hst hzz
        go_upto_region 9 with (fail)
        refine start_ (n := 9) (S := fun w' => w'.heap[B6]? = some (.cells (rcL z z5 t5 z6 t6) 28 (0, 0))) (ds := []) #[false, false, false, false, false, false, false, false, false] (by kernel_rfl) rfl rfl ((blk_below HXe.out (below_drew1 (Below.refl _ _)))) (fun hHeld => ?_)
        obtain ⟨wz, hwz⟩ : ∃ wz, wz = we.drew := ⟨_, rfl⟩
        rw [← hwz] at hHeld ⊢
        have hez : Below we.heap.size we wz := by rw [hwz]; exact below_drew1 (Below.refl _ _)
        have HBz := Aside0.mk (below_step HBe.out hez)
        have HNz := Aside0.mk (Kd.N_below HNe.out hez)
        have HXz := Aside0.mk (blk_below HXe.out hez)
        have HFz5 := Aside0.mk (Kd.F_below HF5.out hez)
        have HFz6 := Aside0.mk (Kd.F_below HF6.out hez)
        clear hwz hez
        refine pure_ (i := 0) (N := some 50) (v := ?_) (a' := ?_) #[true, false, false, false, false, false, false, false, false] rfl rfl (by kernel_rfl) (fun _ _ _ h => h) (Or.inl ⟨by rfl, ?_⟩) ?_ ?_
        rotate_left
        · intro w'
          go_simp
          with_reducible rfl
        rotate_left
        · simp only [Act.put, List.setIfInBounds_toArray, List.set_cons_zero, List.set_cons_succ, i64_w, i32_w]
          rfl
        refine pure_ (i := 4) (N := some 54) (v := ?_) (a' := ?_) #[true, false, false, false, true, false, false, false, false] rfl rfl (by kernel_rfl) (fun _ _ _ h => h) (Or.inl ⟨by rfl, ?_⟩) ?_ ?_
        rotate_left
        · intro w'
          go_simp
          with_reducible rfl
        rotate_left
        · simp only [Act.put, List.setIfInBounds_toArray, List.set_cons_zero, List.set_cons_succ, i64_w, i32_w]
          rfl
        refine pure_ (i := 5) (N := some 55) (v := ?_) (a' := ?_) #[true, false, false, false, true, true, false, false, false] rfl rfl (by kernel_rfl) (fun _ _ _ h => h) (Or.inl ⟨by rfl, ?_⟩) ?_ ?_
        rotate_left
        · intro w'
          go_simp
          with_reducible rfl
        rotate_left
        · simp only [Act.put, List.setIfInBounds_toArray, List.set_cons_zero, List.set_cons_succ, i64_w, i32_w]
          rfl
        refine pure_ (i := 6) (N := some 56) (v := ?_) (a' := ?_) #[true, false, false, false, true, true, true, false, false] rfl rfl (by kernel_rfl) (fun _ _ _ h => h) (Or.inl ⟨by rfl, ?_⟩) ?_ ?_
        rotate_left
        · intro w'
          go_simp
          with_reducible rfl
        rotate_left
        · simp only [Act.put, List.setIfInBounds_toArray, List.set_cons_zero, List.set_cons_succ, i64_w, i32_w]
          rfl
        refine take_ (i := 1) (N := some 51) (v := ?_) (a' := ?_) #[true, true, false, false, true, true, true, false, false] rfl rfl (by kernel_rfl) (fun _ _ _ h => h) (Or.inl ⟨by rfl, ?_⟩) hHeld ?_ ?_
        rotate_left
        · intro w' s0
          obtain ⟨m0, m1, m2, m3, m4, m5, m6⟩ := rcF s0
          go_simp
          with_reducible rfl
        rotate_left
        · simp only [Act.put, List.setIfInBounds_toArray, List.set_cons_zero, List.set_cons_succ, i64_w, i32_w]
          rfl
        refine one_ (i := 2) (N := some 52) #[true, true, true, false, true, true, true, false, false] rfl rfl (by kernel_rfl) (by decide) (fun K hK => ?_)
        refine value_ (w1 := ?_) (v := ?_) (by rfl) rfl ?_ ?_
        rotate_left 2
        · go_simp
          constructor
          · rfl
          · rfl
        refine hK.out _ _ ((blk_below HXz.out (below_alloc (Below.refl _ _) _))) (fun hHeld => ?_)
        clear hK K
        refine norm_ (a' := ?_) ?_ ?_
        rotate_left
        · show Act.put _ (some 52) _ = _
          simp only [Act.put, List.setIfInBounds_toArray, List.set_cons_zero, List.set_cons_succ, i64_w, i32_w]
          rfl
        refine one_ (i := 3) (N := some 53) #[true, true, true, true, true, true, true, false, false] rfl rfl (by kernel_rfl) (by decide) (fun K hK => ?_)
        refine Kd.N_append_step kRc (w0 := w) w.heap.size (by rfl) (.tmp 50) (.tmp 52) 22 28 (.agg zcL) 88 rfl Try.underlying22 info_rec rfl (by decide) (by omega) u4 xs z (rcL z z5 t5 z6 t6).toList (fun k => w.heap.size ≤ k) (fun k => wq.heap.size < k) rfl rfl (P.k28_mkF _ _ z HL5.out (Kd.F_mono HFz5.out (fun k hk => hk)) HL6.out (Kd.F_mono HFz6.out (fun k hk => hk))) (fun k hk => ⟨by have h1 := HWQ.out; omega, fun e => by have h1 := HWO.out; have h2 := HLT.out k e.symm; omega⟩) (fun k hk => by have h1 := HBz.out.size; omega) HNz.out HBz.out (below_size HBz.out) (by omega) ?_
        intro vn wn ho hb hg6 hat
        clear hat
        have HOn := Aside0.mk ho
        have HBn := Aside0.mk hb
        have hxn : wn.heap[B6]? = some (.cells (rcL z z5 t5 z6 t6) 28 (0, 0)) := (hg6.block B6 (blk_lt HXz.out) (fun e => by have h2 := HLT.out B6 e.symm; have h3 := HB6.out; omega)).trans HXz.out
        have HXn := Aside0.mk hxn
        clear ho hb hg6 hxn
        refine hK.out _ _ (HXn.out) (fun hHeld => ?_)
        clear hK K
        refine norm_ (a' := ?_) ?_ ?_
        rotate_left
        · show Act.put _ (some 53) _ = _
          simp only [Act.put, List.setIfInBounds_toArray, List.set_cons_zero, List.set_cons_succ, i64_w, i32_w]
          rfl
        refine pure_ (i := 7) (N := some 4) (v := ?_) (a' := ?_) #[true, true, true, true, true, true, true, true, false] rfl rfl (by kernel_rfl) (fun _ _ _ h => h) (Or.inl ⟨by rfl, ?_⟩) ?_ ?_
        rotate_left
        · intro w'
          go_simp
          with_reducible rfl
        rotate_left
        · simp only [Act.put, List.setIfInBounds_toArray, List.set_cons_zero, List.set_cons_succ, i64_w, i32_w]
          rfl
        refine pure_ (i := 8) (N := some 0) (v := ?_) (a' := ?_) #[true, true, true, true, true, true, true, true, true] rfl rfl (by kernel_rfl) (fun _ _ _ h => h) (Or.inl ⟨by rfl, ?_⟩) ?_ ?_
        rotate_left
        · intro w'
          go_simp
          with_reducible rfl
        rotate_left
        · simp only [Act.put, List.setIfInBounds_toArray, List.set_cons_zero, List.set_cons_succ, i64_w, i32_w]
          rfl
        refine done_ (by kernel_rfl) ?_
        go_wp2_with fail
        have hkf := HRk.out.1
        have hnr := HNR.out
        have hn2 := HN2.out
        have hlr := HLR.out
        obtain ⟨kf2, rfl⟩ : ∃ m, kf = m + 1 := ⟨kf - 1, by omega⟩
        go_roundg (bs.length - (pl + n))
        case measure => omega
        case rel => exact ⟨pl + n, xs ++ [z], kf2, A3, ck - n, by omega, Nat.le_refl _, by rw [← HDn.out], ⟨by rw [← HDn.out]; exact HL3.out⟩, ⟨by rw [← HDn.out]; exact HC3.out⟩, ⟨by rw [List.length_append]; simp; omega⟩, ⟨by omega, HS2.out⟩, HOn, HBn⟩
end

section
open Go.Shelf Go.RowKit Go.Proofs.YtngjaaldidmgjaaW.PrintWords Go.Proofs.YtngjaaldidmgjaaW.PrintLast Go.Proofs.YtngjaaldidmgjaaW.PrintMore
set_option linter.unusedVariables false
set_option linter.unusedSimpArgs false

set_option maxHeartbeats 4000000 in
set_option maxRecDepth 100000 in
theorem recordAlls.walk (A0 : Option Addr) (c0 : Nat) (l0 : List Rc) (A1 : Option Addr) (c1 : Nat) (l1 : List (List Int)) (W : World) (hl0 : l0.length ≤ c0) (hC0 : Kd.C kRc W A0 l0.length l0) (hw0 : ∀ x ∈ l0, wfRc x) (hl1 : l1.length ≤ c1) (hC1 : Kd.C (Kd.slice 5 (Kd.int .u8)) W A1 l1.length l1) (hw1 : ∀ x ∈ l1, ∀ y ∈ x, (Lit.int .u8 y).wf = true) :
    Calls Try.prog 13 #[.slice A0 l0.length c0, .slice A1 l1.length c1] W fun e w' => e = .returned (.bool true) ∧ Below W.heap.size W w' := by
  have HWK := Aside0.mk (wakes24 W)
  have HC0 := Aside0.mk hC0
  have HC1 := Aside0.mk hC1
  have hm0 := Kd.C_max hC0
  have hm1 := Kd.C_max hC1
  have HWF1 := Aside0.mk hw1
  clear hC0 hC1 hw0 hw1
  go_enter Try.func13, Try.ntmps13
  go_wp2_with (go_at_call 14; refine HWK.out.mono ?_; rintro e w1 ⟨rfl, hb⟩; have HBw := Aside0.mk hb; clear hb)
  go_loopg [5, 6, 21] l0.length (fun gg v5 v6 s21 wr => ∃ kk : Nat, kk ≤ l0.length ∧ l0.length - kk ≤ gg ∧ s21 = .int .i64 kk ∧ Aside0 (v6 = .bool ((jn 10 (l0.take kk)).all recOk)) ∧ Aside0 (Kd.N kRc 28 wr w1.heap.size (fun k => w1.heap.size ≤ k) v5 (jn 10 (l0.take kk))) ∧ Aside0 (Below w1.heap.size w1 wr))
  case atStart => exact ⟨0, by omega, by omega, rfl, ⟨rfl⟩, ⟨Kd.N_nil _ _ _ _ _⟩, ⟨Below.refl _ _⟩⟩
  case round =>
    obtain ⟨kk, hkk, hg, rfl, HV6, HOk, HBk⟩ := hrel
    obtain ⟨wo, rfl⟩ : ∃ wo, wo = wr := ⟨_, rfl⟩
    by_cases hlt : kk < l0.length
    · have hltz : (kk : Int) < (l0.length : Int) := by omega
      obtain ⟨ad, A5, c5, A6, c6, hA, p0, p1, p2, p3, p4, p5, p6, ⟨hc5, h5⟩, hc6, h6⟩ := rc_at (Kd.C_below HC0.out HBw.out) kk hlt
      subst hA
      replace p0 := (HBk.out.cell (World.block_lt_of_cell? w1 _ p0)).trans p0
      replace p1 := (HBk.out.cell (World.block_lt_of_cell? w1 _ p1)).trans p1
      replace p2 := (HBk.out.cell (World.block_lt_of_cell? w1 _ p2)).trans p2
      replace p3 := (HBk.out.cell (World.block_lt_of_cell? w1 _ p3)).trans p3
      replace p4 := (HBk.out.cell (World.block_lt_of_cell? w1 _ p4)).trans p4
      replace p5 := (HBk.out.cell (World.block_lt_of_cell? w1 _ p5)).trans p5
      replace p6 := (HBk.out.cell (World.block_lt_of_cell? w1 _ p6)).trans p6
      have HJ := Aside0.mk (jn_more 10 l0 kk hlt)
      have HJ2 := Aside0.mk (jn_same 10 l0 kk)
      generalize l0[kk] = x at *
      obtain ⟨wb, hwb⟩ : ∃ wb, wb = wo.alloc (.cells (rcL x A5 c5 A6 c6) 28) := ⟨_, rfl⟩
      have HX := Aside0.mk (show wb.heap[wo.heap.size]? = some (.cells (rcL x A5 c5 A6 c6) 28 (0, 0)) by rw [hwb]; exact heap_alloc_new _ _)
      have hbb : Below wo.heap.size wo wb := by rw [hwb]; exact (Below.refl _ _).alloc (Nat.le_refl _) _
      have HBb := Aside0.mk (below_step HBk.out hbb)
      have HOb := Aside0.mk (Kd.N_below HOk.out hbb)
      have HFW := Aside0.mk (fun (W' : World) (h : Below w1.heap.size w1 W') => fewS x A5 c5 A6 c6 W' (Kd.C_below h5 h) hc5 (Kd.C_below h6 h) hc6)
      have HLT0 := Aside0.mk (Kd.N_lt HOk.out)
      have HW := Aside0.mk hwb
      clear hwb hbb h5 h6 hc5 hc6 HOk HBk
      go_upto_region 8 with (fail)
      rw [← HW.out]
      clear p0 p1 p2 p3 p4 p5 p6 HW
      obtain ⟨x0, x1, x2, x3, x4, x5, x6⟩ := rcF HX.out
      by_cases h8 : kk < 10
      · have h8z : (kk : Int) < 10 := by omega
        have HJ3 := Aside0.mk (HJ.out h8)
        have hjl := jn_len 10 (l0.take kk)
        generalize jn 10 (l0.take kk) = xs at *
        have HLT := Aside0.mk (Kd.N_lt HOb.out)
        obtain ⟨b, hb⟩ : ∃ b, b = xs.all recOk := ⟨_, rfl⟩
        rw [← hb] at HV6
        have h6v := HV6.out
        subst h6v
        have HBB := Aside0.mk hb
        clear hb HV6
        go_upto_region 10 with (first
          | (go_at_call 15; refine (HFW.out _ HBb.out).mono ?_; rintro e w2 ⟨B5, d5, B6, d6, rfl, hs, hb⟩; have H2 := Aside0.mk hb; have HB2 := Aside0.mk (below_step HBb.out hb); have HO2 := Aside0.mk (Kd.N_below HOb.out hb); have HRS := Aside0.mk hs.fk; have HSZ := Aside0.mk hb.size; clear hs hb)
          | ((with_reducible refine gate_builtin (b := .append) (xs := #[.tmp 28, .tmp 31]) rfl ?_); at_builtin; refine Kd.N_append kRc (w0 := w1) w1.heap.size rfl (.tmp 28) (.tmp 31) 22 28 (.agg zcL) 88 rfl Try.underlying22 info_rec rfl (by decide) (by omega) u5 xs (fewR x) (rcL (fewR x) B5 d5 B6 d6).toList (fun k => w1.heap.size ≤ k) (fun k => wb.heap.size ≤ k) rfl rfl HRS.out (fun k hk => ⟨Nat.le_trans (below_size HBb.out) hk, fun e => by have h2 := HLT.out k e.symm; omega⟩) (fun k hk => Nat.le_trans (below_size HB2.out) hk) HO2.out HB2.out (below_size HB2.out) (by omega) ?_; intro v6 w3 ho hb hg6 hat; have hx3 : w3.heap[wo.heap.size]? = some (.cells (rcL x A5 c5 A6 c6) 28 (0, 0)) := (hg6.block _ (Nat.lt_of_lt_of_le (blk_lt HX.out) HSZ.out) (fun e => by have h2 := HLT0.out _ e.symm; omega)).trans (blk_below HX.out H2.out); clear hg6 hat; rw [← HJ3.out] at ho; have HO3 := Aside0.mk ho; have HB3 := Aside0.mk hb; have HX3 := Aside0.mk hx3; clear ho hb hx3))
        clear x0 x1 x2 x3 x4 x5 x6
        obtain ⟨x0, x1, x2, x3, x4, x5, x6⟩ := rcF HX3.out
        cases b with
        | true =>
          go_wp2_with (first
            | (go_at_call 15; refine (HFW.out _ HB3.out).mono ?_; rintro e w4 ⟨z5, t5, z6, t6, rfl, hs, hb⟩; have HB4 := Aside0.mk (below_step HB3.out hb); have HO4 := Aside0.mk (Kd.N_below HO3.out hb); have HRT := Aside0.mk (refRight (fewR x) z5 t5 z6 t6 w4 (Kd.N_reads' (Kd.S_N hs.1)).2.2 (Kd.N_reads' (Kd.S_N hs.2)).2.2 (Kd.N_reads' (Kd.S_N hs.2)).2.1); clear hs hb)
            | (go_at_call 49; refine HRT.out.mono ?_; rintro e w5 ⟨rfl, hb⟩; have HB5 := Aside0.mk (below_step HB4.out hb); have HO5 := Aside0.mk (Kd.N_below HO4.out hb); clear hb))
          go_roundg (l0.length - (kk + 1))
          case measure => omega
          case rel => exact ⟨kk + 1, by omega, by omega, by go_num, ⟨by rw [HJ3.out, List.all_append, ← HBB.out]; simp⟩, HO5, HB5⟩
        | false =>
          go_wp2_with fail
          go_roundg (l0.length - (kk + 1))
          case measure => omega
          case rel => exact ⟨kk + 1, by omega, by omega, by go_num, ⟨by rw [HJ3.out, List.all_append, ← HBB.out]; simp⟩, HO3, HB3⟩
      · have h8z : ¬ (kk : Int) < 10 := by omega
        rw [← HJ2.out (by omega)] at HOb HV6
        have h6v := HV6.out
        subst h6v
        go_wp2_with fail
        go_roundg (l0.length - (kk + 1))
        case measure => omega
        case rel => exact ⟨kk + 1, by omega, by omega, by go_num, ⟨rfl⟩, HOb, HBb⟩
    · have hltz : ¬ (kk : Int) < (l0.length : Int) := by omega
      have hn := HOk.out
      have h6v := HV6.out
      rw [List.take_of_length_le (by omega)] at hn h6v
      subst h6v
      have hjl := jn_len 10 l0
      generalize jn 10 l0 = xs at *
      obtain ⟨A2, c2, rfl, hc2, hC2⟩ := Kd.N_reads hn
      have HALL := Aside0.mk (recAll A2 c2 xs wo hC2 (by omega))
      have HRA := Aside0.mk (fun (W' : World) (h : Below wo.heap.size wo W') (hk : xs.all recOk = true) => refAll A2 c2 xs W' (Kd.C_below hC2 h) (fun r hr => List.all_eq_true.1 hk r hr) (by omega))
      have HBW := Aside0.mk (below_step HBw.out HBk.out)
      obtain ⟨b, hb⟩ : ∃ b, b = xs.all recOk := ⟨_, rfl⟩
      rw [← hb]
      have HBB := Aside0.mk hb
      clear hn hc2 hC2 hb HOk HV6 HBk HC0
      go_wp2_with fail
      refine HALL.out.mono ?_
      intro e w2 hA
      unfold AllPost at hA
      obtain ⟨hyes, hno, hb2⟩ := hA
      have HB2 := Aside0.mk hb2
      have HBW2 := Aside0.mk (below_step HBW.out hb2)
      clear hb2
      obtain ⟨v9, n10, l9, rfl, hn10, hl9, ho9⟩ : ∃ v n l, e = .returned (.tuple #[v, .int .i64 n]) ∧ n = (if b = true then 0 else 340) ∧ l = (if b = true then allB xs else []) ∧ Kd.R (Kd.int .u8) 5 w2 wo.heap.size (fun _ => True) v l := by
        cases hb3 : b with
        | true =>
          obtain ⟨v, rfl, ho⟩ := hyes (by rw [← HBB.out, hb3])
          exact ⟨v, 0, _, rfl, rfl, rfl, ho⟩
        | false =>
          obtain rfl := hno (by rw [← HBB.out, hb3])
          exact ⟨.slice none 0 0, 340, [], rfl, rfl, rfl, Kd.R_nil _ _ _ _ _⟩
      obtain ⟨A9, c9, rfl, hc9, hC9⟩ := Kd.R_reads ho9
      have HC9 := Aside0.mk hC9
      have HL9 := Aside0.mk hc9
      have HN10 := Aside0.mk hn10
      have HLL9 := Aside0.mk hl9
      clear hyes hno ho9 hC9 hc9 hn10 hl9 HALL
      go_upto_region 13 with (fail)
      go_cut [69] (fun v69 wc => v69 = .bool false ∧ Aside0 (Below w2.heap.size w2 wc))
      case first =>
        cases b with
        | true =>
          have hn := HN10.out
          have hl9 := HLL9.out
          rw [if_pos rfl] at hn hl9
          subst hn hl9
          have HBYT := Aside0.mk (allB_byte xs)
          have HRA2 := Aside0.mk (HRA.out w2 HB2.out HBB.out.symm)
          generalize allB xs = bx at *
          clear HN10 HLL9
          go_wp2_with (first
            | (go_at_call 53; refine HRA2.out.mono ?_; rintro e w3 ⟨v3, rfl, ho, hb⟩; obtain ⟨A3, c3, hv3, hc3, hC3⟩ := Kd.R_reads ho; subst hv3; have HB3 := Aside0.mk hb; have HEQ := Aside0.mk (P.bytes_Equal.calls A9 c9 bx A3 c3 bx true w3 (Kd.C_below HC9.out hb) HL9.out hC3 hc3 (by rw [equal_is bx bx HBYT.out HBYT.out, decide_eq_true rfl])); clear ho hb hC3 hc3)
            | (go_at_call 17; refine HEQ.out.mono ?_; rintro e w4 ⟨rfl, hd⟩; have HB4 := Aside0.mk (below_step HB3.out hd.below); clear hd))
          go_meet
          exact ⟨rfl, HB4⟩
        | false =>
          have hn := HN10.out
          have hl9 := HLL9.out
          rw [if_neg (by decide)] at hn hl9
          subst hn hl9
          clear HN10 HLL9
          go_wp2_with fail
          go_meet
          exact ⟨rfl, ⟨Below.refl _ _⟩⟩
      case rest =>
      obtain ⟨rfl, HBc⟩ := hcut
      obtain ⟨wa, rfl⟩ : ∃ wa, wa = wc := ⟨_, rfl⟩
      have HBa := Aside0.mk (below_step HBW2.out HBc.out)
      clear HBc HBW2 HB2 HBW HN10 HLL9 HC9 HL9 HRA HBB
      clear hlt hltz hkk hg hjl
      go_wp2_with fail
      go_loopg [72] l1.length (fun gg s72 wr => ∃ kk : Nat, kk ≤ l1.length ∧ l1.length - kk ≤ gg ∧ s72 = .int .i64 kk ∧ Aside0 (Below W.heap.size W wr))
      case atStart => exact ⟨0, Nat.zero_le _, by omega, rfl, HBa⟩
      case round =>
        obtain ⟨k2, hkk2, hg2, rfl, HBk⟩ := hrel
        obtain ⟨wo, rfl⟩ : ∃ wo, wo = wr := ⟨_, rfl⟩
        by_cases hlt2 : k2 < l1.length
        case neg =>
          have hltz2 : ¬ (k2 : Int) < (l1.length : Int) := by omega
          go_wp2_with fail
          go_returns
          exact ⟨rfl, HBk.out⟩
        case pos =>
        have hltz2 : (k2 : Int) < (l1.length : Int) := by omega
        obtain ⟨ad, D0, d0, hA, p0, hl0', hD0⟩ := at_LB (Kd.C_below HC1.out HBk.out) k2 hlt2
        subst hA
        have hbx : ∀ y ∈ l1.getD k2 [], isB y := fun y hy => wf_u8 (HWF1.out _ (by rw [getD_of_lt l1 k2 _ hlt2]; exact List.getElem_mem hlt2) y hy)
        generalize l1.getD k2 [] = x at *
        by_cases h10 : k2 = 8
        · have t10 : ((k2 : Int) == 8) = true := by rw [beq_iff_eq]; omega
          clear hD0 hbx h10
          go_wp2_with fail
          go_returns
          exact ⟨rfl, HBk.out⟩
        have n10 : ((k2 : Int) == 8) = false := by rw [beq_eq_false_iff_ne]; omega
        obtain ⟨n, hn1, hn2, hmin, hcut, hCr, hlr⟩ := cut_min D0 d0 x 900 hl0'
        replace hmin : (if (900 : Int) < (x.length : Int) then (900 : Int) else (x.length : Int)) = (n : Int) := hmin
        have HBY := Aside0.mk (show ∀ y ∈ x.take n, isB y from fun y hy => hbx y (List.mem_of_mem_take hy))
        have hrl : (x.take n).length ≤ 900 := by rw [List.length_take]; omega
        have HCx := Aside0.mk (hCr wo hD0)
        generalize x.take n = bs at *
        clear hCr hl0' hD0 hbx hn1 hn2 hlr h10
        go_upto_region 20 with (first
          | ((with_reducible refine gate_dst (N := 79) rfl ?_); refine Kd.R_lit (Kd.int .u8) (w0 := wo) wo.heap.size 5 ?hg (N := 79) ?hd (xs := ([] : List Int)) (inner := []) (ok := fun _ => True) (okp := fun _ => True) ?hr ?hp (fun _ hk => hk) trivial (Below.refl _ _) (Nat.le_refl _) (by simp) ?_; (case hd => rfl); (case hg => rfl); (case hr => first | (go_simp; done) | (go_simp; rfl)); (case hp => exact (Reps.none _ _)); intro v22 w3 ho hb hg hnew; clear hg hnew; have HO3 := Aside0.mk ho; have HB3 := Aside0.mk hb; have HC3 := Aside0.mk (Kd.C_below HCx.out hb); clear ho hb)
          | ((with_reducible refine gate_builtin (b := .append) (xs := #[.tmp 79, .tmp 84]) rfl ?_); at_builtin; refine Kd.R_append_rows (Kd.int .u8) (w0 := wo) wo.heap.size rfl (.tmp 79) (.tmp 84) 30 5 (.int .u8 0) 1 rfl Try.underlying30 info_u8 rfl (by decide) (by omega) v22 [] bs _ _ _ (fun _ => True) (fun _ => False) rfl rfl HO3.out HC3.out (fun _ _ h => h) (fun _ h => h.elim) (fun _ _ => trivial) HB3.out (below_size HB3.out) (by simp only [List.length_nil]; omega) ?_; intro v28 w4 ho hb hg hat; clear hat hg; rw [List.nil_append] at ho; have HO4 := Aside0.mk ho; have HB4 := Aside0.mk hb; clear ho hb))
        obtain ⟨Ab, cb, rfl, hcb, hCb⟩ := Kd.R_reads HO4.out
        have HCb := Aside0.mk hCb
        have HLB := Aside0.mk hcb
        have HBW4 := Aside0.mk (below_step HBk.out HB4.out)
        have HP1 := Aside0.mk (recParse Ab cb bs w4 hCb hcb (by omega) HBY.out)
        clear hCb hcb HO3 HB3 HC3 HCx HO4 HB4
        go_wp2_with fail
        refine HP1.out.mono ?_
        intro e w5 hP
        unfold ParsePost at hP
        obtain ⟨hsome, hnone, hb5⟩ := hP
        have HB5 := Aside0.mk hb5
        have HBW5 := Aside0.mk (below_step HBW4.out hb5)
        have HP2 := Aside0.mk (refParse Ab cb bs w5 (Kd.C_below HCb.out hb5) HLB.out (by omega) HBY.out)
        clear hb5 HP1 HBW4
        cases hR : parseR bs with
        | none =>
          obtain rfl := hnone hR
          have HR := Aside0.mk hR
          clear hsome hnone hR
          go_wp2_with fail
          refine HP2.out.mono ?_
          intro e w6 hP
          unfold RParsePost at hP
          obtain ⟨_, hnone, hb6⟩ := hP
          obtain rfl := hnone HR.out
          have HBW6 := Aside0.mk (below_step HBW5.out hb6)
          clear hnone hb6
          go_wp2_with fail
          go_roundg (l1.length - (k2 + 1))
          case measure => omega
          case rel => exact ⟨k2 + 1, by omega, by omega, by go_num, HBW6⟩
        | some lr =>
          obtain ⟨v, rfl, hN⟩ := hsome _ hR
          obtain ⟨A7, c7, rfl, hc7, hC7⟩ := Kd.N_reads hN
          have HC7 := Aside0.mk hC7
          have HR := Aside0.mk hR
          clear hsome hnone hR hN hC7
          go_wp2_with fail
          refine HP2.out.mono ?_
          intro e w6 hP
          unfold RParsePost at hP
          obtain ⟨hsome, _, hb6⟩ := hP
          obtain ⟨v, rfl, hN⟩ := hsome _ HR.out
          obtain ⟨A8, c8, rfl, hc8, hC8⟩ := Kd.N_reads hN
          have HBW6 := Aside0.mk (below_step HBW5.out hb6)
          have HSA := Aside0.mk (refSA A7 c7 A8 c8 lr w6 (Kd.C_below HC7.out hb6) hC8)
          clear hsome hb6 hN hC8
          go_wp2_with (go_at_call 55; refine HSA.out.mono ?_; rintro e w7 ⟨rfl, hb⟩; have HBW7 := Aside0.mk (below_step HBW6.out hb); clear hb)
          go_roundg (l1.length - (k2 + 1))
          case measure => omega
          case rel => exact ⟨k2 + 1, by omega, by omega, by go_num, HBW7⟩
end

end Go.Proofs.Ytngjaaldidmgjaa.G
