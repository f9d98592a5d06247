/- Contract of means.Start: the first centroids. Contract of means.Start: the walk. Whose centroid each is, a round, a training: what these words say; plain. -/
import Derived.Test.YtbdoeikdoohagaaG10
namespace Go.Proofs.Ytbdoeikdoohagaa.G
open Go.Shelf Go.RowKit Go.Proofs.YtbdoeikdoohagaaW.PrintWords Go.Proofs.YtbdoeikdoohagaaW.PrintLast Go.Proofs.YtbdoeikdoohagaaW.PrintMore
set_option linter.unusedVariables false
set_option linter.unusedSimpArgs false

section
set_option maxHeartbeats 1000000 in
set_option maxRecDepth 100000 in
theorem idx_int (A : Option Addr) (n c : Nat) (K : Nat) (lb : Array Value) (p : Nat → Bool) (val : Nat → Value) (w : World) (hA : 0 < n → ∃ ad, A = some ad ∧ ∀ j, j < n → w.cell? (ad.add j) = some (val j)) (hn : n ≤ 9223372036854775807)
    (eg : ∀ args w, (callFunc K args).run Try.prog w = .ok (.enter K args) w)
    (hp : ∀ j W, j < n → Drawn0 w W → Calls Try.prog K (#[val j] ++ lb) W fun e w' => e = .returned (.bool (p j)) ∧ Drawn0 W w') :
    Calls Try.prog 74 #[.slice A n c, .func (.func K) #[] lb] w fun e w' => e = .returned (.int .i64 (firstP p 0 n)) ∧ Drawn0 w w' := by
  have HA := Aside0.mk hA
  have HP := Aside0.mk hp
  clear hA hp
  go_enter Try.func74, Try.ntmps74
  go_wp2
  go_loopg [5, 8] n (fun gg _ s8 wr => ∃ kk q : Nat, kk ≤ n ∧ n - kk ≤ gg ∧ s8 = .int .i64 kk ∧ wr = w.drewN q ∧ Aside0 (firstP p 0 n = firstP p kk (n - kk)))
  case atStart => exact ⟨0, 0, Nat.zero_le _, by omega, rfl, rfl, ⟨rfl⟩⟩
  case round =>
    obtain ⟨kk, q, hkk, hg, rfl, rfl, HF⟩ := hrel
    by_cases hlt : kk < n
    · have hltz : (kk : Int) < (n : Int) := by omega
      obtain ⟨ad, hA, hc⟩ := HA.out (by omega)
      subst hA
      have hcell := hc kk hlt
      clear hc
      have hcall := fun W h => HP.out kk W hlt h
      generalize val kk = y at hcell hcall
      cases hq : p kk with
      | true =>
        rw [hq] at hcall
        have HC := Aside0.mk hcall
        have HQ := Aside0.mk hq
        clear hcall hq
        go_wp2_with (go_at_fn K; refine (HC.out _ ?_).mono ?_; (first | exact ⟨⟨_, rfl⟩⟩ | exact ⟨⟨_, (World.drewN_drewN _ _ _)⟩⟩); rintro e w' ⟨rfl, ⟨⟨q', rfl⟩⟩⟩)
        go_ret
        refine ⟨?_, ⟨⟨_, rfl⟩⟩⟩
        rw [HF.out, firstP_hit HQ.out (by omega)]
        rfl
      | false =>
        rw [hq] at hcall
        have HC := Aside0.mk hcall
        have HQ := Aside0.mk hq
        clear hcall hq
        go_wp2_with (go_at_fn K; refine (HC.out _ ?_).mono ?_; (first | exact ⟨⟨_, rfl⟩⟩ | exact ⟨⟨_, (World.drewN_drewN _ _ _)⟩⟩); rintro e w' ⟨rfl, ⟨⟨q', rfl⟩⟩⟩)
        go_roundg (n - (kk + 1))
        case measure => omega
        case rel => exact ⟨kk + 1, _, by omega, by omega, by go_num, rfl, ⟨by rw [HF.out, firstP_miss HQ.out (by omega), show n - kk - 1 = n - (kk + 1) by omega]⟩⟩
    · have hltz : ¬ (kk : Int) < (n : Int) := by omega
      obtain rfl : kk = n := by omega
      go_wp2
      go_ret
      refine ⟨?_, ⟨⟨q, rfl⟩⟩⟩
      rw [HF.out, Nat.sub_self]
      rfl


set_option maxHeartbeats 1000000 in
set_option maxRecDepth 100000 in
theorem con_int (A : Option Addr) (n c : Nat) (K : Nat) (lb : Array Value) (p : Nat → Bool) (val : Nat → Value) (w : World) (hA : 0 < n → ∃ ad, A = some ad ∧ ∀ j, j < n → w.cell? (ad.add j) = some (val j)) (hn : n ≤ 9223372036854775807)
    (eg : ∀ args w, (callFunc K args).run Try.prog w = .ok (.enter K args) w)
    (hp : ∀ j W, j < n → Drawn0 w W → Calls Try.prog K (#[val j] ++ lb) W fun e w' => e = .returned (.bool (p j)) ∧ Drawn0 W w') :
    Calls Try.prog 62 #[.slice A n c, .func (.func K) #[] lb] w fun e w' => e = .returned (.bool ((List.range' 0 n).any p)) ∧ Drawn0 w w' := by
  have HI := Aside0.mk (idx_int A n c K lb p val w hA hn eg hp)
  have HE := Aside0.mk (firstP_nonneg p n 0)
  clear hA hp
  go_enter Try.func62, Try.ntmps62
  go_wp2_with fail
  refine HI.out.mono ?_
  generalize firstP p 0 n = x at HE
  rintro e w' ⟨rfl, hd⟩
  have HD := Aside0.mk hd
  clear hd
  go_wp2_with fail
  go_returns
  exact ⟨by rw [← HE.out]; rfl, HD.out⟩


def okD (x : Int) : Bool := decide (0 ≤ x ∧ x ≤ 1073741824)
theorem draw1 (x : Int) (w : World) : Calls Try.prog 61 #[.int .i64 x] w fun e w' => e = .returned (.bool (!okD x)) ∧ Drawn0 w w' := by
  by_cases h1 : x < 0
  · have hs : okD x = false := by simp [okD]; omega
    have e1 : decide (x < (0 : Int)) = true := decide_eq_true h1
    rw [hs]
    clear hs
    go_enter Try.func61, Try.ntmps61
    go_wp2_with fail
    go_returns
    exact ⟨rfl, Drawn0.refl _⟩
  · by_cases h2 : 1073741824 < x
    · have hs : okD x = false := by simp [okD]; omega
      have e1 : decide (x < (0 : Int)) = false := decide_eq_false h1
      have e2 : decide ((1073741824 : Int) < x) = true := decide_eq_true h2
      rw [hs]
      clear hs
      go_enter Try.func61, Try.ntmps61
      go_wp2_with fail
      go_returns
      exact ⟨rfl, Drawn0.refl _⟩
    · have hs : okD x = true := by simp [okD]; omega
      have e1 : decide (x < (0 : Int)) = false := decide_eq_false h1
      have e2 : decide ((1073741824 : Int) < x) = false := decide_eq_false h2
      rw [hs]
      clear hs
      go_enter Try.func61, Try.ntmps61
      go_wp2_with fail
      go_returns
      exact ⟨rfl, Drawn0.refl _⟩

theorem con_draw (A : Option Addr) (c : Nat) (l : List Int) (w : World) (hr : Kd.C (Kd.int .i64) w A l.length l) :
    Calls Try.prog 62 #[.slice A l.length c, .func (.func 61) #[] #[]] w fun e w' => e = .returned (.bool (!l.all okD)) ∧ Drawn0 w w' := by
  have := con_int A l.length c 61 #[] (fun j => !okD (l.getD j 0)) (fun j => .int .i64 (l.getD j 0)) w (fun h => by
      obtain ⟨ad, hA, _⟩ := C_byte' hr 0 h
      exact ⟨ad, hA, fun j hj => by
        obtain ⟨ad', hA', hc⟩ := C_byte' hr j hj
        rw [hA] at hA'
        injection hA' with hA'
        subst hA'
        exact hc⟩) (Kd.C_max hr) (enters_of Try.func61 (by kernel_rfl) rfl) (fun j W hj hd => draw1 _ W)
  rw [any_at l (fun x => !okD x) 0] at this
  have e : (l.any fun x => !okD x) = !l.all okD := by rw [List.not_all_eq_any_not]
  rw [e] at this
  exact this

def manyErr (l : List (List Int)) : Int := if l.length = 0 then 4 else if 96 < l.length then 3 else 0
def pick (l : List (List Int)) (ds : List Int) : List (List Int) := ds.map fun d => l.getD (d.toNat % l.length) []
def drawsOk (ds : List Int) : Bool := decide (1 ≤ ds.length ∧ ds.length ≤ 6) && ds.all okD
def startR (l : List (List Int)) (ds : List Int) : List (List Int) × Int :=
  if drawsOk ds = true then (if manyErr l = 0 then (if allErr l = 0 then (pick l ds, 0) else ([], allErr l)) else ([], manyErr l)) else ([], 2)
def means_Start.f (l : List (List Int)) (ds : List Int) : Option (List (List Int) × Int) := some (startR l ds)

theorem many_is (l : List (List Int)) : P.means_many.f l = some (manyErr l) := by
  unfold P.means_many.f manyErr
  by_cases h : l.length = 0
  · rw [if_pos (by omega), if_pos h]
  · rw [if_neg (by omega), if_neg h]
    by_cases h2 : 96 < l.length
    · rw [if_pos (by omega), if_pos h2]
    · rw [if_neg (by omega), if_neg h2]
end

section
abbrev kRR : Kd (List (List Int)) := Kd.slice 25 kR

theorem pick_snoc (l : List (List Int)) (ds : List Int) (k : Nat) (hk : k < ds.length) : pick l (ds.take (k + 1)) = pick l (ds.take k) ++ [l.getD ((ds.getD k 0).toNat % l.length) []] := by
  unfold pick
  rw [List.take_succ_eq_append_getElem hk, List.map_append, getD_of_lt ds k 0 hk]
  rfl
theorem right_short {l : List (List Int)} (h : l.all right = true) : ∀ x ∈ l, x.length ≤ 4 := fun x hx => (right_len x (List.all_eq_true.1 h x hx)).2

set_option maxHeartbeats 2000000 in
set_option maxRecDepth 100000 in
theorem start_go (A : Option Addr) (c : Nat) (l : List (List Int)) (B : Option Addr) (d : Nat) (ds : List Int) (w : World) (hr : Kd.C kR w A l.length l) (hc : l.length ≤ c) (hr' : Kd.C (Kd.int .i64) w B ds.length ds)
    (hd1 : 1 ≤ ds.length) (hd2 : ds.length ≤ 6) (hd3 : ds.all okD = true) (r1 : List (List Int)) (r2 : Int) (h : (if manyErr l = 0 then (if allErr l = 0 then (pick l ds, (0 : Int)) else ([], allErr l)) else ([], manyErr l)) = (r1, r2)) :
    Calls Try.prog 37 #[.slice A l.length c, .slice B ds.length d] w fun e w' => ∃ v0_ : Value, e = .returned (.tuple #[v0_, .int .i64 r2]) ∧ Kd.R kR 25 w' w.heap.size (fun _ => True) v0_ r1 ∧ Below w.heap.size w w' := by
  have e1 : ((ds.length : Int) == 0) = false := by rw [beq_eq_false_iff_ne]; omega
  have e2 : decide ((6 : Int) < (ds.length : Int)) = false := decide_eq_false (by omega)
  have HCD := Aside0.mk (con_draw B d ds w hr')
  rw [hd3] at HCD
  have HD3 := Aside0.mk hd3
  have HR := Aside0.mk hr
  have HR' := Aside0.mk hr'
  have HK := Aside0.mk (show kRR.K w l [.slice A l.length c] from ⟨A, c, rfl, hc, hr⟩)
  have HCc := Aside0.mk hc
  have hm := Kd.C_max hr
  obtain ⟨me, hme⟩ : ∃ me, me = manyErr l := ⟨_, rfl⟩
  obtain ⟨ae, hae⟩ : ∃ ae, ae = allErr l := ⟨_, rfl⟩
  rw [← hme, ← hae] at h
  have HME := Aside0.mk hme
  have HAE := Aside0.mk hae
  have H := Aside0.mk h
  clear hr hr' hd3 h hme hae hc
  go_enter Try.func37, Try.ntmps37
  go_wp2_with fail
  refine HCD.out.mono ?_
  rintro e w1 ⟨rfl, ⟨⟨n1, rfl⟩⟩⟩
  go_wp2_with fail
  refine (P.means_many.calls A c l me _ (Kd.C_drewN HR.out n1) HCc.out (by rw [HME.out]; exact many_is l)).mono ?_
  rintro e w2 ⟨rfl, ⟨⟨n2, rfl⟩⟩⟩
  have h := H.out
  by_cases hz : me = 0
  case neg =>
    rw [if_neg hz] at h
    obtain ⟨rfl, rfl⟩ := Prod.mk.inj h
    have e3 : (me != 0) = true := by rw [bne_iff_ne]; exact hz
    clear h H hz
    go_wp2_with fail
    go_returns
    exact ⟨_, rfl, Kd.R_nil _ _ _ _ _, pw_below_drewN (Below.refl _ _) _⟩
  rw [if_pos hz] at h
  subst hz
  have hl96 : 1 ≤ l.length ∧ l.length ≤ 96 := by
    have := HME.out
    unfold manyErr at this
    by_cases h0 : l.length = 0
    · rw [if_pos h0] at this; omega
    · rw [if_neg h0] at this
      by_cases h1 : 96 < l.length
      · rw [if_pos h1] at this; omega
      · omega
  obtain ⟨hl1, hl2⟩ := hl96
  have H := Aside0.mk h
  clear h
  go_wp2_with ((with_reducible refine gate_dst (N := 31) rfl ?_); refine Kd.R_lit (Kd.fixed kRR w) (w0 := w) w.heap.size 22 ?hg (N := 31) ?hd (xs := [l]) (inner := [.slice A l.length c]) (ok := fun _ => True) (okp := fun _ => True) ?hr ?hp (fun _ hk => hk) trivial (pw_below_drewN (Below.refl _ _) _) (Nat.le_refl _) (by simp) ?_; (case hd => rfl); (case hg => rfl); (case hr => first | (go_simp; done) | (go_simp; rfl)); (case hp => exact Reps.one HK.out (Reps.none _ _)); intro v1 w3 ho hb hg_ hnew_; clear hg_ hnew_; obtain ⟨A2, c2, e2', hl2', hC2⟩ := Kd.R_reads ho; subst e2'; have HC2 := Aside0.mk (ReadsRow.imp_ hC2 (Below.refl _ _) (fun _ _ hp => kRR.K_below hb hp) : Kd.C kRR w3 A2 [l].length [l]); have HL2 := Aside0.mk hl2'; have HB3 := Aside0.mk hb; clear ho hb hl2' hC2)
  refine (means_all.calls A2 c2 [l] ae w3 HC2.out HL2.out (by unfold means_all.f; rw [if_pos (by simp; omega), HAE.out]; simp)).mono ?_
  rintro e w4 ⟨rfl, hb4⟩
  have HB4 := Aside0.mk (below_step HB3.out hb4)
  clear hb4
  have h := H.out
  by_cases hz : ae = 0
  case neg =>
    rw [if_neg hz] at h
    obtain ⟨rfl, rfl⟩ := Prod.mk.inj h
    have e3 : (ae != 0) = true := by rw [bne_iff_ne]; exact hz
    clear h H hz
    go_wp2_with fail
    go_returns
    exact ⟨_, rfl, Kd.R_nil _ _ _ _ _, HB4.out⟩
  rw [if_pos hz] at h
  subst hz
  obtain ⟨rfl, rfl⟩ := Prod.mk.inj h
  have HAR := Aside0.mk ((allErr_zero l).1 HAE.out.symm).1
  clear h H
  go_wp2_with fail
  go_loopg [9, 38] ds.length (fun gg v9 s38 wr => ∃ kk : Nat, kk ≤ ds.length ∧ ds.length - kk ≤ gg ∧ s38 = .int .i64 kk ∧ Aside0 (Kd.R (Kd.fixed kR w) 25 wr w.heap.size (fun _ => True) v9 (pick l (ds.take kk))) ∧ Aside0 (Below w.heap.size w wr))
  case atStart => exact ⟨0, Nat.zero_le _, by omega, rfl, ⟨by exact Kd.R_nil _ _ _ _ _⟩, HB4⟩
  case round =>
    obtain ⟨kk, hkk, hg, rfl, HO, HB⟩ := hrel
    by_cases hlt : kk < ds.length
    · have hltz : (kk : Int) < (ds.length : Int) := by omega
      obtain ⟨bd, hB, hcell⟩ := C_byte' HR'.out kk hlt
      subst hB
      replace hcell := (HB.out.cell (World.block_lt_of_cell? w _ hcell)).trans hcell
      have hok := List.all_eq_true.1 HD3.out _ (List.getElem_mem hlt)
      rw [← getD_of_lt ds kk 0 hlt] at hok
      have hok2 : 0 ≤ ds.getD kk 0 ∧ ds.getD kk 0 ≤ 1073741824 := of_decide_eq_true hok
      have HPS := Aside0.mk (pick_snoc l ds kk hlt)
      obtain ⟨m, hm2⟩ := Int.eq_ofNat_of_zero_le hok2.1
      rw [hm2] at hcell HPS
      rw [Int.toNat_natCast] at HPS
      have hq : m % l.length < l.length := Nat.mod_lt _ (by omega)
      obtain ⟨ad, A', c', hA, hcell2, hlc', hC⟩ := C_row HR.out (m % l.length) hq
      subst hA
      replace hcell2 := (HB.out.cell (World.block_lt_of_cell? w _ hcell2)).trans hcell2
      have HKK := Aside0.mk (show kR.K w (l.getD (m % l.length) []) [.slice A' (l.getD (m % l.length) []).length c'] from ⟨A', c', rfl, hlc', hC⟩)
      have hlen : (pick l (ds.take kk)).length = kk := by unfold pick; rw [List.length_map, List.length_take]; omega
      have HLN := Aside0.mk hlen
      clear hok hok2 hlc' hC hlen
      generalize l.getD (m % l.length) [] = x at *
      clear hm2
      go_wp2_with ((with_reducible refine gate_builtin (b := .append) (xs := #[.tmp 42, .tmp 50]) rfl ?_); at_builtin; refine Kd.R_append (Kd.fixed kR w) (w0 := w) w.heap.size rfl (.tmp 42) (.tmp 50) 22 25 (.slice none 0 0) 24 rfl Try.underlying22 info_row rfl (show 0 < 1 by decide) (by omega) u9 (pick l (ds.take kk)) x [.slice A' x.length c'] (fun _ => True) (fun _ => False) rfl rfl HKK.out (fun _ hk => hk.elim) (fun _ _ => trivial) HO.out HB.out (below_size HB.out) (by rw [HLN.out]; omega) ?_; intro v5 w5 ho hb hg2 hat; rw [← HPS.out] at ho; have HO2 := Aside0.mk ho; have HB2 := Aside0.mk hb; clear ho hb hg2 hat)
      go_roundg (ds.length - (kk + 1))
      case measure => omega
      case rel => exact ⟨kk + 1, hlt, by omega, by go_num, HO2, HB2⟩
    · obtain rfl : kk = ds.length := by omega
      have hO := HO.out
      rw [List.take_length] at hO
      obtain ⟨A3, c3, e3, hl3, hC3⟩ := Kd.R_reads hO
      subst e3
      have HC3 := Aside0.mk (ReadsRow.imp_ hC3 (Below.refl _ _) (fun _ _ hp => kR.K_below HB.out hp) : Kd.C kR wr A3 (pick l ds).length (pick l ds))
      have hpl : (pick l ds).length = ds.length := by unfold pick; rw [List.length_map]
      have hshort : (pick l ds).all (fun v => decide (v.length ≤ 1000000)) = true := by
        rw [List.all_eq_true]
        intro x hx
        unfold pick at hx
        obtain ⟨y, _, rfl⟩ := List.mem_map.1 hx
        refine decide_eq_true ?_
        by_cases hy : y.toNat % l.length < l.length
        · rw [getD_of_lt l _ [] hy]
          have := right_short HAR.out _ (List.getElem_mem hy)
          omega
        · simp [List.getD, List.getElem?_eq_none (show l.length ≤ y.toNat % l.length by omega)]
      have HCP := Aside0.mk (copied.calls A3 c3 (pick l ds) (pick l ds) wr HC3.out hl3 (by unfold copied.f; rw [if_pos ⟨by omega, hshort⟩]))
      have HO := Aside0.mk hO
      clear hO hC3 hl3 hpl hshort
      go_wp2_with fail
      refine HCP.out.mono ?_
      rintro e w5 ⟨v5, rfl, ho5, hb5⟩
      have HO5 := Aside0.mk (Kd.R_lower ho5 HB.out.size)
      have HB5 := Aside0.mk (below_step HB.out hb5)
      obtain ⟨A5, c5, rfl⟩ := Kd.R_slice ho5
      clear ho5 hb5
      go_wp2_with fail
      go_returns
      exact ⟨_, rfl, HO5.out, HB5.out⟩

set_option maxHeartbeats 1000000 in
set_option maxRecDepth 100000 in
theorem means_Start.calls (A : Option Addr) (c : Nat) (l : List (List Int)) (B : Option Addr) (d : Nat) (ds : List Int) (r1 : List (List Int)) (r2 : Int) (w : World) (hr : Kd.C (Kd.slice 21 (Kd.int .i32)) w A l.length l) (hc : l.length ≤ c) (hr' : Kd.C (Kd.int .i64) w B ds.length ds) (hc' : ds.length ≤ d) (h : means_Start.f l ds = some (r1, r2)) :
    Calls Try.prog 37 #[.slice A l.length c, .slice B ds.length d] w fun e w' => ∃ v0_ : Value, e = .returned (.tuple #[v0_, .int .i64 r2]) ∧ Kd.R (Kd.slice 21 (Kd.int .i32)) 25 w' w.heap.size (fun _ => True) v0_ r1 ∧ Below w.heap.size w w' := by
  replace h := Option.some.inj h
  unfold startR at h
  have hm := Kd.C_max hr'
  by_cases h1 : ds.length = 0
  · rw [if_neg (by simp [drawsOk, h1])] at h
    obtain ⟨rfl, rfl⟩ := Prod.mk.inj h
    obtain rfl : ds = [] := List.length_eq_zero_iff.1 h1
    clear h hr hr' h1
    go_enter Try.func37, Try.ntmps37
    go_wp2_with fail
    go_returns
    exact ⟨_, rfl, Kd.R_nil _ _ _ _ _, Below.refl _ _⟩
  have e1 : ((ds.length : Int) == 0) = false := by rw [beq_eq_false_iff_ne]; omega
  by_cases h2 : 6 < ds.length
  · rw [if_neg (by simp [drawsOk]; omega)] at h
    obtain ⟨rfl, rfl⟩ := Prod.mk.inj h
    have e2 : decide ((6 : Int) < (ds.length : Int)) = true := decide_eq_true (by omega)
    clear h hr hr' h1
    go_enter Try.func37, Try.ntmps37
    go_wp2_with fail
    go_returns
    exact ⟨_, rfl, Kd.R_nil _ _ _ _ _, Below.refl _ _⟩
  have e2 : decide ((6 : Int) < (ds.length : Int)) = false := decide_eq_false (by omega)
  by_cases h3 : ds.all okD = true
  · rw [if_pos (by unfold drawsOk; rw [decide_eq_true (show 1 ≤ ds.length ∧ ds.length ≤ 6 from ⟨by omega, by omega⟩), h3]; rfl)] at h
    exact start_go A c l B d ds w hr hc hr' (by omega) (by omega) h3 r1 r2 h
  · rw [if_neg (by unfold drawsOk; simp [h3])] at h
    obtain ⟨rfl, rfl⟩ := Prod.mk.inj h
    have hcd := con_draw B d ds w hr'
    rw [show ds.all okD = false by simpa using h3] at hcd
    have HCD := Aside0.mk hcd
    clear h hr hr' h1 h3 hcd
    go_enter Try.func37, Try.ntmps37
    go_wp2_with fail
    refine HCD.out.mono ?_
    rintro e w1 ⟨rfl, ⟨⟨n1, rfl⟩⟩⟩
    go_wp2_with fail
    go_returns
    exact ⟨_, rfl, Kd.R_nil _ _ _ _ _, pw_below_drewN (Below.refl _ _) _⟩
end

section
def centErr (c : List (List Int)) : Int := if c.length = 0 then 2 else if 6 < c.length then 2 else 0
def own1 (c : List (List Int)) (v : List Int) : Int := (nst c v c.length).1
def partsV (c l : List (List Int)) : List Int := l.map (own1 c)
def partsR (c l : List (List Int)) : List Int × Int := if centErr c = 0 then (if manyErr l = 0 then (if allErr (c ++ l) = 0 then (partsV c l, 0) else ([], allErr (c ++ l))) else ([], manyErr l)) else ([], 2)
def mineN (c l : List (List Int)) (n : Nat) : List (List Int) := l.filter fun v => decide (own1 c v = (n : Int))
def new1 (c l : List (List Int)) (n : Nat) : List Int := if mineN c l n = [] then c.getD n [] else meanV (mineN c l n)
def roundV (c l : List (List Int)) : List (List Int) := (List.range c.length).map (new1 c l)
def roundR (c l : List (List Int)) : List (List Int) × Int := if (partsR c l).2 = 0 then (roundV c l, 0) else ([], (partsR c l).2)
def trainL (l : List (List Int)) : Nat → List (List Int) → List (List Int)
  | 0, c => c
  | k + 1, c => trainL l k (roundV c l)
def trainR (l : List (List Int)) (ds : List Int) : List (List Int) × Int := if (startR l ds).2 = 0 then (trainL l 4 (pick l ds), 0) else ([], (startR l ds).2)

/-- Vectors that may be, of one dimension. -/
def okV (d : Nat) (l : List (List Int)) : Prop := ∀ x ∈ l, right x = true ∧ x.length = d
theorem ok_of_err {l : List (List Int)} (h : allErr l = 0) : okV (l.getD 0 []).length l := by
  obtain ⟨h1, h2⟩ := (allErr_zero l).1 h
  exact fun x hx => ⟨List.all_eq_true.1 h1 x hx, by simpa using List.all_eq_true.1 h2 x hx⟩
theorem err_of_ok {d : Nat} {l : List (List Int)} (h : okV d l) : allErr l = 0 := by
  refine (allErr_zero l).2 ⟨List.all_eq_true.2 fun x hx => (h x hx).1, ?_⟩
  refine List.all_eq_true.2 fun x hx => decide_eq_true ?_
  have h0 : 0 < l.length := List.length_pos_of_mem hx
  rw [(h x hx).2, getD_of_lt l 0 [] h0]
  exact ((h _ (List.getElem_mem h0)).2).symm
theorem ok_append {d : Nat} {c l : List (List Int)} : okV d (c ++ l) ↔ okV d c ∧ okV d l := by
  unfold okV
  simp only [List.mem_append]
  exact ⟨fun h => ⟨fun x hx => h x (.inl hx), fun x hx => h x (.inr hx)⟩, fun h x hx => hx.elim (h.1 x) (h.2 x)⟩
theorem ok_cons {d : Nat} {v : List Int} {l : List (List Int)} : okV d (v :: l) ↔ (right v = true ∧ v.length = d) ∧ okV d l := by
  unfold okV
  simp only [List.mem_cons]
  exact ⟨fun h => ⟨h v (.inl rfl), fun x hx => h x (.inr hx)⟩, fun h x hx => hx.elim (fun e => e ▸ h.1) (h.2 x)⟩
theorem mine_ok {d : Nat} {c l : List (List Int)} {n : Nat} (hl : okV d l) : okV d (mineN c l n) := fun x hx => hl x (List.mem_filter.1 hx).1
theorem mine_len (c l : List (List Int)) (n : Nat) : (mineN c l n).length ≤ l.length := List.length_filter_le _ _
theorem own1_range (c : List (List Int)) (v : List Int) : 0 ≤ own1 c v ∧ own1 c v ≤ c.length := nst_range c v c.length
theorem near_of {c : List (List Int)} {v : List Int} (h0 : 0 < c.length) (h1 : c.length ≤ 6) (h : allErr (v :: c) = 0) : vec_Nearest.f c v = some (own1 c v, 0) := by
  unfold vec_Nearest.f nearR
  rw [if_pos (by omega), if_neg (by omega), if_pos h]
  rfl
theorem err_front {c l : List (List Int)} (h : allErr (c ++ l) = 0) (k : Nat) (hk : k < l.length) : allErr (l.getD k [] :: c) = 0 := by
  have h1 := ok_append.1 (ok_of_err h)
  refine err_of_ok (d := ((c ++ l).getD 0 []).length) (ok_cons.2 ⟨?_, h1.1⟩)
  rw [getD_of_lt l k [] hk]
  exact h1.2 _ (List.getElem_mem hk)
theorem parts_snoc (c l : List (List Int)) (k : Nat) (hk : k < l.length) : partsV c (l.take (k + 1)) = partsV c (l.take k) ++ [own1 c (l.getD k [])] := by
  unfold partsV
  rw [take_snocR l k hk, List.map_append]
  rfl
theorem parts_len (c l : List (List Int)) : (partsV c l).length = l.length := by simp [partsV]
theorem parts_at (c l : List (List Int)) (k : Nat) (hk : k < l.length) : (partsV c l).getD k 0 = own1 c (l.getD k []) := by
  rw [getD_of_lt _ k 0 (by rw [parts_len]; exact hk), getD_of_lt l k [] hk]
  simp [partsV]
theorem cent_ok {c : List (List Int)} (h : centErr c = 0) : 0 < c.length ∧ c.length ≤ 6 := by
  unfold centErr at h
  by_cases h0 : c.length = 0
  · rw [if_pos h0] at h; omega
  · rw [if_neg h0] at h
    by_cases h1 : 6 < c.length
    · rw [if_pos h1] at h; omega
    · omega
theorem many_ok {l : List (List Int)} (h : manyErr l = 0) : 1 ≤ l.length ∧ l.length ≤ 96 := by
  unfold manyErr at h
  by_cases h0 : l.length = 0
  · rw [if_pos h0] at h; omega
  · rw [if_neg h0] at h
    by_cases h1 : 96 < l.length
    · rw [if_pos h1] at h; omega
    · omega
theorem parts_ok {c l : List (List Int)} (h : (partsR c l).2 = 0) : (0 < c.length ∧ c.length ≤ 6) ∧ (1 ≤ l.length ∧ l.length ≤ 96) ∧ allErr (c ++ l) = 0 ∧ partsR c l = (partsV c l, 0) := by
  unfold partsR at h ⊢
  by_cases h1 : centErr c = 0
  · rw [if_pos h1] at h ⊢
    by_cases h2 : manyErr l = 0
    · rw [if_pos h2] at h ⊢
      by_cases h3 : allErr (c ++ l) = 0
      · rw [if_pos h3] at h ⊢; exact ⟨cent_ok h1, many_ok h2, h3, rfl⟩
      · rw [if_neg h3] at h; exact absurd h h3
    · rw [if_neg h2] at h; exact absurd h h2
  · rw [if_neg h1] at h; simp at h

theorem nst_spec0 (l : List (List Int)) (v : List Int) : ∀ k, k ≤ l.length → 0 < l.length → ∃ j : Nat, (nst l v k).1 = (j : Int) ∧ j < l.length ∧ (j ≤ k) ∧ (nst l v k).2 = distV (l.getD j []) v ∧ ∀ i, i < k → (nst l v k).2 ≤ distV (l.getD i []) v ∧ (distV (l.getD i []) v = (nst l v k).2 → j ≤ i)
  | 0, _, h0 => ⟨0, rfl, h0, Nat.le_refl _, rfl, fun i hi => absurd hi (Nat.not_lt_zero _)⟩
  | k + 1, hk, h0 => by
    obtain ⟨j, h1, h2, h3, h4, h5⟩ := nst_spec0 l v k (by omega) h0
    unfold nst
    by_cases hc : distV (l.getD k []) v < (nst l v k).2 ∨ (distV (l.getD k []) v = (nst l v k).2 ∧ (k : Int) < (nst l v k).1)
    · rw [if_pos hc]
      refine ⟨k, rfl, by omega, by omega, rfl, fun i hi => ?_⟩
      simp only
      by_cases e : i = k
      · subst e; exact ⟨Int.le_refl _, fun _ => Nat.le_refl _⟩
      · have h6 := h5 i (by omega)
        rcases hc with hc | ⟨hc, hc2⟩
        · exact ⟨by omega, fun h => by omega⟩
        · omega
    · rw [if_neg hc]
      refine ⟨j, h1, h2, by omega, h4, fun i hi => ?_⟩
      by_cases e : i = k
      · subst e
        refine ⟨by omega, fun h => ?_⟩
        omega
      · exact h5 i (by omega)
theorem meanV_len0 (l : List (List Int)) : (meanV l).length = (l.getD 0 []).length := by unfold meanV; simp
theorem meanV_at0 (l : List (List Int)) (i : Nat) (hi : i < (meanV l).length) : (meanV l).getD i 0 = sumAt l i / (l.length : Int) := by
  rw [getD_of_lt _ i 0 hi]
  unfold meanV
  simp
theorem sumAt_between0 (i : Nat) (lo hi : Int) : ∀ l : List (List Int), (∀ x ∈ l, lo ≤ x.getD i 0 ∧ x.getD i 0 ≤ hi) → l.length * lo ≤ sumAt l i ∧ sumAt l i ≤ l.length * hi
  | [], _ => by simp [sumAt]
  | v :: l, h => by
    have h1 := h v (by simp)
    have h2 := sumAt_between0 i lo hi l (fun x hx => h x (by simp [hx]))
    simp only [sumAt, List.length_cons, Int.natCast_add, Int.add_mul]
    omega
theorem mean_between0 (l : List (List Int)) (h0 : 0 < l.length) (i : Nat) (lo hi : Int) (h : ∀ j, j < l.length → lo ≤ (l.getD j []).getD i 0 ∧ (l.getD j []).getD i 0 ≤ hi) : lo ≤ sumAt l i / (l.length : Int) ∧ sumAt l i / (l.length : Int) ≤ hi := by
  have hb := sumAt_between0 i lo hi l (fun x hx => by
    obtain ⟨j, hj, rfl⟩ := List.getElem_of_mem hx
    have := h j hj
    rwa [getD_of_lt l j [] hj] at this)
  constructor
  · rw [Int.le_ediv_iff_mul_le (by omega), Int.mul_comm]; exact hb.1
  · have : sumAt l i / (l.length : Int) < hi + 1 := by
      rw [Int.ediv_lt_iff_lt_mul (by omega), Int.add_mul, Int.mul_comm hi, Int.one_mul]
      omega
    omega
theorem right_mean0 (l : List (List Int)) (h0 : 0 < l.length) (hz : allErr l = 0) : right (meanV l) = true := by
  obtain ⟨h1, h2⟩ := (allErr_zero l).1 hz
  have hl := right_len _ (right_at l h1 0 h0)
  unfold right
  rw [Bool.and_eq_true]
  refine ⟨decide_eq_true (by rw [meanV_len0]; exact hl), List.all_eq_true.2 fun x hx => ?_⟩
  obtain ⟨i, hi, rfl⟩ := List.getElem_of_mem hx
  rw [← getD_of_lt _ i 0 hi, meanV_at0 l i hi]
  have := mean_between0 l h0 i (-1073741823) 1073741823 (fun j hj => right_comp _ (right_at l h1 j hj) i)
  exact decide_eq_true this
theorem own1_spec (c : List (List Int)) (v : List Int) (h0 : 0 < c.length) : ∃ j : Nat, own1 c v = (j : Int) ∧ j < c.length ∧ ∀ i, i < c.length → distV (c.getD j []) v ≤ distV (c.getD i []) v ∧ (distV (c.getD i []) v = distV (c.getD j []) v → j ≤ i) := by
  obtain ⟨j, e1, e2, _, e4, e5⟩ := nst_spec0 c v c.length (Nat.le_refl _) h0
  refine ⟨j, e1, e2, ?_⟩
  rw [e4] at e5
  exact e5

theorem mean_ok {d : Nat} {l : List (List Int)} (h : okV d l) (h0 : l ≠ []) : right (meanV l) = true ∧ (meanV l).length = d := by
  have hp : 0 < l.length := List.length_pos_iff.2 h0
  refine ⟨right_mean0 l hp (err_of_ok h), ?_⟩
  rw [meanV_len0, getD_of_lt l 0 [] hp]
  exact (h _ (List.getElem_mem hp)).2
theorem new1_ok {d : Nat} {c l : List (List Int)} {n : Nat} (hc : okV d c) (hl : okV d l) (hn : n < c.length) : right (new1 c l n) = true ∧ (new1 c l n).length = d := by
  unfold new1
  by_cases h : mineN c l n = []
  · rw [if_pos h, getD_of_lt c n [] hn]; exact hc _ (List.getElem_mem hn)
  · rw [if_neg h]; exact mean_ok (mine_ok hl) h
theorem round_ok {d : Nat} {c l : List (List Int)} (hc : okV d c) (hl : okV d l) : okV d (roundV c l) := by
  intro x hx
  obtain ⟨n, hn, rfl⟩ := List.mem_map.1 hx
  exact new1_ok hc hl (List.mem_range.1 hn)
theorem round_len (c l : List (List Int)) : (roundV c l).length = c.length := by simp [roundV]
theorem train_ok {d : Nat} {l : List (List Int)} (hl : okV d l) : ∀ (k : Nat) (c : List (List Int)), okV d c → okV d (trainL l k c)
  | 0, c, h => h
  | k + 1, c, h => train_ok hl k _ (round_ok h hl)
theorem train_len (l : List (List Int)) : ∀ (k : Nat) (c : List (List Int)), (trainL l k c).length = c.length
  | 0, c => rfl
  | k + 1, c => by rw [trainL, train_len l k, round_len]
theorem train_fix {c l : List (List Int)} (h : roundV c l = c) : ∀ k, trainL l k c = c
  | 0 => rfl
  | k + 1 => by rw [trainL, h]; exact train_fix h k

theorem pick_mem {l : List (List Int)} {ds : List Int} (h0 : 0 < l.length) {x : List Int} (hx : x ∈ pick l ds) : x ∈ l := by
  obtain ⟨d, _, rfl⟩ := List.mem_map.1 hx
  have hq : d.toNat % l.length < l.length := Nat.mod_lt _ h0
  rw [getD_of_lt l _ [] hq]
  exact List.getElem_mem hq
theorem pick_ok {d : Nat} {l : List (List Int)} {ds : List Int} (h0 : 0 < l.length) (hl : okV d l) : okV d (pick l ds) := fun x hx => hl x (pick_mem h0 hx)
theorem pick_len (l : List (List Int)) (ds : List Int) : (pick l ds).length = ds.length := by simp [pick]
theorem start_ok {l : List (List Int)} {ds : List Int} (h : (startR l ds).2 = 0) : drawsOk ds = true ∧ 1 ≤ l.length ∧ l.length ≤ 96 ∧ allErr l = 0 ∧ startR l ds = (pick l ds, 0) := by
  unfold startR at h ⊢
  by_cases h1 : drawsOk ds = true
  · rw [if_pos h1] at h ⊢
    by_cases h2 : manyErr l = 0
    · rw [if_pos h2] at h ⊢
      have h3 : 1 ≤ l.length ∧ l.length ≤ 96 := by
        unfold manyErr at h2
        by_cases h3 : l.length = 0
        · rw [if_pos h3] at h2; omega
        · rw [if_neg h3] at h2
          by_cases h4 : 96 < l.length
          · rw [if_pos h4] at h2; omega
          · omega
      by_cases h4 : allErr l = 0
      · rw [if_pos h4]; exact ⟨h1, h3.1, h3.2, h4, rfl⟩
      · rw [if_neg h4] at h; exact absurd h h4
    · rw [if_neg h2] at h; exact absurd h h2
  · rw [if_neg h1] at h; simp at h
theorem start_of {l : List (List Int)} {ds : List Int} (h1 : drawsOk ds = true) (h2 : 1 ≤ l.length) (h3 : l.length ≤ 96) (h4 : allErr l = 0) : startR l ds = (pick l ds, 0) := by
  have hm : manyErr l = 0 := by unfold manyErr; rw [if_neg (by omega), if_neg (by omega)]
  unfold startR
  rw [if_pos h1, if_pos hm, if_pos h4]
end

end Go.Proofs.Ytbdoeikdoohagaa.G
