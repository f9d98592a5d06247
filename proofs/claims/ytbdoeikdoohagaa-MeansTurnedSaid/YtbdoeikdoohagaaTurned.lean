/- quiverlaw12.MeansTurned answers true, for every row of vectors, draws and number by which they are turned. -/
import Derived.Test.YtbdoeikdoohagaaPxT
import Derived.Test.YtbdoeikdoohagaaLw
namespace Go.Proofs.Ytbdoeikdoohagaa.G
open Go.Shelf Go.RowKit Go.Proofs.YtbdoeikdoohagaaW.PrintWords Go.Proofs.YtbdoeikdoohagaaW.PrintLast Go.Proofs.YtbdoeikdoohagaaW.PrintMore
set_option linter.unusedVariables false
set_option linter.unusedSimpArgs false

def ownD (n K : Nat) (x : Int) : Int := (x % (n : Int) + n - K) % (n : Int)
theorem wrap_range_u64 (a : Int) : 0 ≤ IntKind.u64.wrap a := by
  rw [IntKind.wrap_u64]
  omega
theorem ownD_nat (n K m : Nat) (hK : K < n) : ownD n K (m : Int) = (((m % n + n - K) % n : Nat) : Int) := by
  have h : m % n < n := Nat.mod_lt _ (by omega)
  unfold ownD
  rw [show ((m : Int) % (n : Int)) = ((m % n : Nat) : Int) from rfl, show (((m % n : Nat) : Int) + (n : Int) - (K : Int)) = ((m % n + n - K : Nat) : Int) by omega]
  rfl
theorem turned_at (I : List (List Int)) (K m : Nat) (hK : K < I.length) : (I.drop K ++ I.take K).getD ((m % I.length + I.length - K) % I.length) [] = I.getD (m % I.length) [] := by
  have h : m % I.length < I.length := Nat.mod_lt _ (by omega)
  generalize m % I.length = a at *
  rw [List.getD_eq_getElem?_getD, List.getD_eq_getElem?_getD]
  congr 1
  by_cases ha : K ≤ a
  · have e : (a + I.length - K) % I.length = a - K := by
      rw [show a + I.length - K = (a - K) + I.length by omega, Nat.add_mod_right, Nat.mod_eq_of_lt (by omega)]
    rw [e, List.getElem?_append_left (by rw [List.length_drop]; omega), List.getElem?_drop]
    congr 1
    omega
  · have e : (a + I.length - K) % I.length = a + I.length - K := Nat.mod_eq_of_lt (by omega)
    rw [e, List.getElem?_append_right (by rw [List.length_drop]; omega), List.length_drop, List.getElem?_take_of_lt (by omega)]
    congr 1
    omega
theorem draws_all {D : List Int} (h : drawsOk D = true) : ∀ x ∈ D, 0 ≤ x ∧ x ≤ 1073741824 := by
  unfold drawsOk at h
  rw [Bool.and_eq_true] at h
  exact fun x hx => of_decide_eq_true (List.all_eq_true.1 h.2 x hx)
theorem pick_turned (I : List (List Int)) (D : List Int) (K : Nat) (hK : K < I.length) (hD : drawsOk D = true) : pick (I.drop K ++ I.take K) (D.map (ownD I.length K)) = pick I D := by
  unfold pick
  rw [List.map_map]
  refine List.map_congr_left fun x hx => ?_
  obtain ⟨m, rfl⟩ := Int.eq_ofNat_of_zero_le (draws_all hD x hx).1
  have hl : (I.drop K ++ I.take K).length = I.length := by rw [List.length_append, List.length_drop, List.length_take]; omega
  show (I.drop K ++ I.take K).getD ((ownD I.length K (m : Int)).toNat % (I.drop K ++ I.take K).length) [] = I.getD ((m : Int).toNat % I.length) []
  rw [hl, ownD_nat _ _ _ hK, Int.toNat_natCast, Int.toNat_natCast, Nat.mod_mod, turned_at I K m hK]
theorem draws_turned (n : Nat) (D : List Int) (K : Nat) (hK : K < n) (hn : n ≤ 96) (hD : drawsOk D = true) : drawsOk (D.map (ownD n K)) = true := by
  have h1 := hD
  unfold drawsOk at h1 ⊢
  rw [Bool.and_eq_true] at h1 ⊢
  rw [List.length_map]
  refine ⟨h1.1, List.all_eq_true.2 fun y hy => ?_⟩
  obtain ⟨x, hx, rfl⟩ := List.mem_map.1 hy
  obtain ⟨m, rfl⟩ := Int.eq_ofNat_of_zero_le (draws_all hD x hx).1
  rw [ownD_nat _ _ _ hK]
  have : (m % n + n - K) % n < n := Nat.mod_lt _ (by omega)
  exact decide_eq_true (by omega)
theorem turned_train {d : Nat} (I : List (List Int)) (D : List Int) (K : Nat) (hK : K < I.length) (hn : I.length ≤ 96) (hok : okV d I) (hD : drawsOk D = true) : trainR (I.drop K ++ I.take K) (D.map (ownD I.length K)) = (trainL I 4 (pick I D), 0) := by
  have hp : (I.drop K ++ I.take K).Perm I := by
    have := List.perm_append_comm (l₁ := I.drop K) (l₂ := I.take K)
    rwa [List.take_append_drop] at this
  have ho : okV d (I.drop K ++ I.take K) := fun x hx => hok x (hp.mem_iff.1 hx)
  have hl : (I.drop K ++ I.take K).length = I.length := hp.length_eq
  have hs := start_of (l := I.drop K ++ I.take K) (draws_turned I.length D K hK hn hD) (by omega) (by omega) (err_of_ok ho)
  unfold trainR
  rw [hs, if_pos rfl, pick_turned I D K hK hD, train_perm hp ho]
theorem turned_l0 (t : List (List Int)) (x9 : List (List Int)) (n K : Nat) (hK : K < n) (hn : n ≤ 96) (D : List Int) (hD : ∀ x ∈ D, 0 ≤ x ∧ x ≤ 1073741824) (hl : D.length ≤ 7) (r : Bool) (hr : (means_Train.f t (D.map (ownD n K))).bind (fun bt486 => (if bt486.2 = 0 then ((means_Same.f bt486.1 x9).bind fun t490 => (some t490)) else (some false))) = some r) : ∀ (d i k : Nat), i + d = D.length → d < k →
    P.quiverlaw12_MeansTurned.l0 k x9 (n : Int) (K : Int) t ((D.take i).map (ownD n K)) D (D.length : Int) (i : Int) = some r
  | 0, i, k + 1, h, _ => by
    rw [P.quiverlaw12_MeansTurned.l0, if_neg (by omega), List.take_of_length_le (by omega)]
    exact hr
  | d + 1, i, k + 1, h, hk => by
    have ih := turned_l0 t x9 n K hK hn D hD hl r hr d (i + 1) k (by omega) (by omega)
    have hx := hD (D.getD i 0) (by rw [getD_of_lt D i 0 (by omega)]; exact List.getElem_mem (by omega))
    rw [List.take_succ_eq_append_getElem (by omega), List.map_append, ← getD_of_lt D i 0 (by omega)] at ih
    rw [P.quiverlaw12_MeansTurned.l0, if_pos (by omega), if_pos (by omega), if_pos (by omega), if_neg (by omega), if_pos (by rw [List.length_map, List.length_take]; omega), rd_nat]
    generalize D.getD i 0 = x at *
    have h1 := Int.emod_nonneg x (show (n : Int) ≠ 0 by omega)
    have h2 := Int.emod_lt_of_pos x (show 0 < (n : Int) by omega)
    have e : Int.tmod (wrap64 ((wrap64 ((Int.tmod x (n : Int)) + (n : Int))) - (K : Int))) (n : Int) = ownD n K x := by
      unfold ownD
      rw [Int.tmod_eq_emod_of_nonneg hx.1, w64 (i := x % (n : Int) + n) (by omega) (by omega), w64 (by omega) (by omega), Int.tmod_eq_emod_of_nonneg (by omega)]
    rw [e, w64 (by omega) (by omega), show ((i : Int) + 1) = ((i + 1 : Nat) : Int) by omega]
    exact ih
theorem few_same {d : Nat} {I : List (List Int)} {n : Nat} (h : okV d I) (hn : I.length ≤ n) : fewV n I = I := by
  unfold fewV
  rw [List.take_of_length_le hn]
  have : ∀ x ∈ I, List.take 5 x = id x := fun x hx => List.take_of_length_le (by have := (right_len x (h x hx).1).2; omega)
  rw [List.map_congr_left this, List.map_id]
theorem turned_pure (l : List (List Int)) (ds : List Int) (a : Int) (hl : l.length ≤ 9223372036854775807) : P.quiverlaw12_MeansTurned.f (l.length + 200) l ds a = some true := by
  unfold P.quiverlaw12_MeansTurned.f
  rw [show wakes12.f = some true from rfl, Option.bind_some, if_pos rfl, show (96 : Int) = ((96 : Nat) : Int) from rfl, few_is _ l 96 (by omega) hl (by omega), Option.bind_some, some_is, Option.bind_some]
  have hI := few_len 96 l
  have hD7 : (someV ds).length ≤ 7 := by unfold someV; rw [List.length_take]; omega
  generalize fewV 96 l = I at *
  generalize someV ds = D at *
  unfold means_Train.f
  rw [Option.bind_some]
  by_cases hz : (trainR I D).2 = 0
  case neg => rw [if_neg hz]
  obtain ⟨⟨hd1, hd6⟩, ⟨hi1, hi2⟩, hok, hst, ht, hdr⟩ := trainR_ok hz
  rw [if_pos hz]
  have hu : IntKind.u64.wrap (I.length : Int) = (I.length : Int) := IntWalk.u64_in _ (by omega)
  have hg := wrap_range_u64 a
  rw [hu, Int.tmod_eq_emod_of_nonneg hg]
  generalize IntKind.u64.wrap a = u at *
  have h1 := Int.emod_nonneg u (show (I.length : Int) ≠ 0 by omega)
  have h2 := Int.emod_lt_of_pos u (show 0 < (I.length : Int) by omega)
  obtain ⟨K, hK⟩ := Int.eq_ofNat_of_zero_le h1
  rw [hK] at h2 ⊢
  rw [w64 (by omega) (by omega), if_neg (by omega), if_pos (by omega), if_pos (by omega), Int.toNat_natCast]
  have hdo : okV (I.getD 0 []).length (I.drop K) := fun x hx => hok x (List.mem_of_mem_drop hx)
  rw [few_is _ (I.drop K) I.length (by omega) (by rw [List.length_drop]; omega) (by rw [List.length_drop]; omega), few_same hdo (by rw [List.length_drop]; omega), Option.bind_some, Option.bind_some, if_pos (by rw [List.length_drop, List.length_take]; omega), ht]
  refine turned_l0 _ _ I.length K (by omega) hi2 D (draws_all hdr) hD7 true ?_ D.length 0 _ (by omega) (by omega)
  unfold means_Train.f means_Same.f
  rw [Option.bind_some, turned_train I D K (by omega) hi2 hok hdr, if_pos rfl, Option.bind_some]
  simp

theorem meansTurned.walk (A : Option Addr) (c : Nat) (l : List (List Int)) (B : Option Addr) (d : Nat) (ds : List Int) (a : Int) (W : World) (hl : l.length ≤ c) (hC : Kd.C (Kd.slice 21 (Kd.int .i32)) W A l.length l) (wl : ∀ x ∈ l, ∀ y ∈ x, (Lit.int .i32 y).wf = true) (hd : ds.length ≤ d) (hD : Kd.C (Kd.int .i64) W B ds.length ds) (wd : ∀ x ∈ ds, (Lit.int .i64 x).wf = true) (wa : (Lit.int .i64 a).wf = true) :
    Calls Try.prog 16 #[.slice A l.length c, .slice B ds.length d, .int .i64 a] W fun e W' => e = .returned (.bool true) ∧ Below W.heap.size W W' :=
  P.quiverlaw12_MeansTurned.calls _ A c l B d ds a true W hC hl hD hd (turned_pure l ds a (Kd.C_max hC))

end Go.Proofs.Ytbdoeikdoohagaa.G
