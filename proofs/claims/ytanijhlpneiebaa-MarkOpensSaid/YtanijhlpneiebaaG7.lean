/- Contracts of mark.On and mark.Back, over the seat's translation: for every mark and every bytes. -/
import Derived.Test.YtanijhlpneiebaaG1
import Derived.Test.YtanijhlpneiebaaPxL0
import Derived.RegionTactic
import Derived.ChangeAlike
import Derived.Deep.QuietTactic
import Derived.BigQuiet
import Derived.WalkSpells
import Derived.Handy
namespace Go.Proofs.Ytanijhlpneiebaa.G
open Go.RowKit Go.Proofs.YtanijhlpneiebaaW.PrintWords Go.Proofs.YtanijhlpneiebaaW.PrintLast Go.Proofs.YtanijhlpneiebaaW.PrintMore
set_option linter.unusedVariables false
set_option linter.unusedSimpArgs false

def onStep (m c : Int) : Int := IntKind.u64.wrap (bits .xor .u64 m c * 1099511628211)
def bytesOk (l : List Int) : Bool := l.all fun x => decide (0 ≤ x ∧ x ≤ 255)
theorem bytesOk_iff (l : List Int) : bytesOk l = true ↔ ∀ x ∈ l, 0 ≤ x ∧ x ≤ 255 := by simp [bytesOk]
def mark_On.f (m : Int) (l : List Int) : Option Int := if bytesOk l = true then some (l.foldl onStep m) else none

set_option maxHeartbeats 1000000 in
set_option maxRecDepth 100000 in
theorem on1 (m : Int) (A : Option Addr) (c : Nat) (l : List Int) (B k : Nat) (w : World) (hk : k < l.length) (hby : ∀ x ∈ l, 0 ≤ x ∧ x ≤ 255) (hr : Kd.C (Kd.int .u8) w A l.length l)
    (hB : w.heap[B]? = some (.cells #[.slice A l.length c] 22 (0, 0))) :
    Calls Try.prog 63 #[.int .u64 m, .int .i64 k, .pointer (some ⟨B, 0, none⟩)] w fun e w' => e = .returned (.int .u64 (onStep m (rd l k))) ∧ w = w' := by
  have q1 : w.cell? ⟨B, 0, none⟩ = some (.slice A l.length c) := (blk_cell hB 0).trans rfl
  obtain ⟨ad, rfl, q2⟩ := C_byte hr k hk
  have hb := hby _ (show rd l k ∈ l by rw [rd_at l k hk]; exact List.getElem_mem hk)
  have hm := Kd.C_max hr
  clear hr hB hby
  obtain ⟨x, hx⟩ : ∃ x, x = rd l k := ⟨_, rfl⟩
  rw [← hx] at q2 hb ⊢
  clear hx
  go_enter Try.func63, Try.ntmps63
  go_wp2_with fail
  go_returns
  exact ⟨rfl, rfl⟩

theorem foldl_step (f : Int → Int → Int) (m : Int) (l : List Int) (k : Nat) (hk : k < l.length) : (l.take (k + 1)).foldl f m = f ((l.take k).foldl f m) (rd l k) := by
  rw [take_snoc l k hk, List.foldl_append]; rfl

set_option maxHeartbeats 1000000 in
set_option maxRecDepth 100000 in
theorem steps_on (m : Int) (A : Option Addr) (c : Nat) (l : List Int) (B : Nat) (w : World) (hby : ∀ x ∈ l, 0 ≤ x ∧ x ≤ 255) (hr : Kd.C (Kd.int .u8) w A l.length l)
    (hB : w.heap[B]? = some (.cells #[.slice A l.length c] 22 (0, 0))) :
    Calls Try.prog 62 #[.int .u64 m, .int .i64 l.length, .func (.func 63) #[] #[.pointer (some ⟨B, 0, none⟩)]] w fun e w' => e = .returned (.int .u64 (l.foldl onStep m)) ∧ w = w' := by
  have HC := Aside0.mk (fun (m : Int) (k : Nat) (hk : k < l.length) => on1 m A c l B k w hk hby hr hB)
  have hm := Kd.C_max hr
  clear hby hr hB
  go_enter Try.func62, Try.ntmps62
  go_wp2_with fail
  go_loop [0, 7, 9] (fun v0 v7 i => ∃ (k : Nat) (x : Int), k ≤ l.length ∧ i = .int .i64 k ∧ v0 = .int .u64 x ∧ Aside0 (x = (l.take k).foldl onStep m)) (fun _ _ i => l.length - (intOf i).toNat)
  case atStart => exact ⟨0, m, Nat.zero_le _, rfl, rfl, ⟨rfl⟩⟩
  case round =>
    obtain ⟨k, x, hk, rfl, rfl, HX⟩ := hrel
    by_cases hlt : k < l.length
    · go_wp2_with fail
      refine (HC.out x k hlt).mono ?_
      rintro e w' ⟨rfl, rfl⟩
      have HS := Aside0.mk (foldl_step onStep m l k hlt)
      obtain ⟨y, hy⟩ : ∃ y, y = onStep x (rd l k) := ⟨_, rfl⟩
      have HY := Aside0.mk hy
      rw [← hy]
      clear hy
      go_wp2_with fail
      go_round
      case rel => exact ⟨k + 1, y, hlt, by go_num, rfl, ⟨by rw [HY.out, HS.out, HX.out]⟩⟩
      case measure => simp [intOf]; omega
    · obtain rfl : k = l.length := by omega
      go_wp2_with fail
      go_returns
      exact ⟨by show _ = _; rw [show (l.foldl onStep m) = x by rw [HX.out, List.take_length]]; rfl, rfl⟩

set_option maxHeartbeats 1000000 in
set_option maxRecDepth 100000 in
theorem mark_On.calls (m : Int) (A : Option Addr) (c : Nat) (l : List Int) (r : Int) (w : World) (hr : Kd.C (Kd.int .u8) w A l.length l) (hc : l.length ≤ c) (h : mark_On.f m l = some r) :
    Calls Try.prog 41 #[.int .u64 m, .slice A l.length c] w fun e w' => e = .returned (.int .u64 r) ∧ Below w.heap.size w w' := by
  unfold mark_On.f at h
  split at h
  case isFalse => cases h
  case isTrue hb =>
  have hby := (bytesOk_iff l).1 hb
  clear hb
  obtain rfl := Option.some.inj h
  have HC := Aside0.mk (steps_on m A c l w.heap.size (w.alloc (.cells #[.slice A l.length c] 22)) hby (Kd.C_alloc hr _) (heap_alloc_new w _))
  clear hby hr hc h
  go_enter Try.func41, Try.ntmps41
  go_wp2_with fail
  refine HC.out.mono ?_
  rintro e w' ⟨rfl, rfl⟩
  go_wp2_with fail
  go_returns
  exact ⟨rfl, below_alloc (Below.refl _ _) _⟩

def backStep (m c : Int) : Int := bits .xor .u64 (IntKind.u64.wrap (m * 14886173955864302971)) c
def backAll (m : Int) (l : List Int) : Int := l.reverse.foldl backStep m
def mark_Back.f (m : Int) (l : List Int) : Option Int := if bytesOk l = true then some (backAll m l) else none
theorem inverse_is : P.mark_inverse.f 10 = some 14886173955864302971 := by decide +kernel

set_option maxHeartbeats 1000000 in
set_option maxRecDepth 100000 in
theorem back1 (m v : Int) (A : Option Addr) (c : Nat) (l : List Int) (B B2 k : Nat) (w : World) (hk : k < l.length) (hby : ∀ x ∈ l, 0 ≤ x ∧ x ≤ 255) (hr : Kd.C (Kd.int .u8) w A l.length l)
    (hB : w.heap[B]? = some (.cells #[.slice A l.length c] 22 (0, 0))) (hB2 : w.heap[B2]? = some (.cells #[.int .u64 v] 23 (0, 0))) :
    Calls Try.prog 65 #[.int .u64 m, .int .i64 k, .pointer (some ⟨B2, 0, none⟩), .pointer (some ⟨B, 0, none⟩)] w fun e w' => e = .returned (.int .u64 (bits .xor .u64 (IntKind.u64.wrap (m * v)) (rd l (l.length - 1 - k : Nat)))) ∧ Drawn0 w w' := by
  have q1 : w.cell? ⟨B, 0, none⟩ = some (.slice A l.length c) := (blk_cell hB 0).trans rfl
  have q3 : w.cell? ⟨B2, 0, none⟩ = some (.int .u64 v) := (blk_cell hB2 0).trans rfl
  obtain ⟨j, hj⟩ : ∃ j, j = l.length - 1 - k := ⟨_, rfl⟩
  have hjl : j < l.length := by omega
  obtain ⟨ad, rfl, q2⟩ := C_byte hr j hjl
  have hb := hby _ (show rd l j ∈ l by rw [rd_at l j hjl]; exact List.getElem_mem hjl)
  have hm := Kd.C_max hr
  rw [← hj]
  have e1 : IntKind.i64.wrap ((l.length : Int) - 1) = (l.length : Int) - 1 := IntWalk.i64_in _ (by omega)
  have e2 : IntKind.i64.wrap ((l.length : Int) - 1 - k) = (j : Int) := by rw [IntWalk.i64_in _ (by omega)]; omega
  have e3 : (l.length : Int) - 1 - k = (j : Int) := by omega
  clear hr hB hby hB2 hj
  obtain ⟨x, hx⟩ : ∃ x, x = rd l j := ⟨_, rfl⟩
  rw [← hx] at q2 hb ⊢
  clear hx
  go_enter Try.func65, Try.ntmps65
  go_wp2_with fail
  go_quiet (fail)
  go_wp2_with fail
  go_returns
  exact ⟨rfl, ⟨⟨_, rfl⟩⟩⟩

theorem foldl_rev_step (f : Int → Int → Int) (m : Int) (l : List Int) (k : Nat) (hk : k < l.length) : (l.reverse.take (k + 1)).foldl f m = f ((l.reverse.take k).foldl f m) (rd l (l.length - 1 - k : Nat)) := by
  rw [take_snoc l.reverse k (by simpa using hk), List.foldl_append, rd_at l.reverse k (by simpa using hk), rd_at l _ (by omega), List.getElem_reverse]; rfl

theorem _root_.Go.Proofs.YtanijhlpneiebaaW.PrintWords.Drawn0.trans_ {a b c : World} (h : Drawn0 a b) (k : Drawn0 b c) : Drawn0 a c := by
  obtain ⟨⟨n, rfl⟩⟩ := k
  exact h.step n

set_option maxHeartbeats 1000000 in
set_option maxRecDepth 100000 in
theorem steps_back (m : Int) (A : Option Addr) (c : Nat) (l : List Int) (B B2 : Nat) (w : World) (hby : ∀ x ∈ l, 0 ≤ x ∧ x ≤ 255) (hr : Kd.C (Kd.int .u8) w A l.length l)
    (hB : w.heap[B]? = some (.cells #[.slice A l.length c] 22 (0, 0))) (hB2 : w.heap[B2]? = some (.cells #[.int .u64 14886173955864302971] 23 (0, 0))) :
    Calls Try.prog 62 #[.int .u64 m, .int .i64 l.length, .func (.func 65) #[] #[.pointer (some ⟨B2, 0, none⟩), .pointer (some ⟨B, 0, none⟩)]] w fun e w' => e = .returned (.int .u64 (backAll m l)) ∧ Drawn0 w w' := by
  have HC := Aside0.mk (fun (W : World) (hd : Drawn0 w W) (m : Int) (k : Nat) (hk : k < l.length) => back1 m 14886173955864302971 A c l B B2 k W hk hby (Kd.C_below hr hd.below) (blk_below hB hd.below) (blk_below hB2 hd.below))
  have hm := Kd.C_max hr
  clear hby hr hB hB2
  go_enter Try.func62, Try.ntmps62
  go_wp2_with fail
  go_loopw [0, 7, 9] (fun v0 v7 i wr => ∃ (k : Nat) (x : Int), k ≤ l.length ∧ i = .int .i64 k ∧ v0 = .int .u64 x ∧ Aside0 (x = (l.reverse.take k).foldl backStep m) ∧ Drawn0 w wr) (fun _ _ i _ => l.length - (intOf i).toNat)
  case atStart => exact ⟨0, m, Nat.zero_le _, rfl, rfl, ⟨rfl⟩, Drawn0.refl _⟩
  case round =>
    obtain ⟨k, x, hk, rfl, rfl, HX, hd⟩ := hrel
    have HD := Aside0.mk hd
    clear hd
    by_cases hlt : k < l.length
    · have HS := Aside0.mk (foldl_rev_step backStep m l k hlt)
      go_wp2_with fail
      refine (HC.out _ HD.out x k hlt).mono ?_
      rintro e w' ⟨rfl, hd2⟩
      have HD2 := Aside0.mk hd2
      clear hd2
      obtain ⟨y, hy⟩ : ∃ y, y = bits .xor .u64 (IntKind.u64.wrap (x * 14886173955864302971)) (rd l (l.length - 1 - k : Nat)) := ⟨_, rfl⟩
      have HY := Aside0.mk hy
      rw [← hy]
      clear hy
      go_wp2_with fail
      go_roundw
      case rel => exact ⟨k + 1, y, hlt, by go_num, rfl, ⟨by rw [HY.out, HS.out, HX.out]; rfl⟩, Drawn0.trans_ HD.out HD2.out⟩
      case measure => simp [intOf]; omega
    · obtain rfl : k = l.length := by omega
      go_wp2_with fail
      go_returns
      exact ⟨by show _ = _; rw [show backAll m l = x by rw [HX.out, List.take_of_length_le (by simp)]; rfl]; rfl, HD.out⟩

set_option maxHeartbeats 1000000 in
set_option maxRecDepth 100000 in
theorem mark_Back.calls (m : Int) (A : Option Addr) (c : Nat) (l : List Int) (r : Int) (w : World) (hr : Kd.C (Kd.int .u8) w A l.length l) (hc : l.length ≤ c) (h : mark_Back.f m l = some r) :
    Calls Try.prog 43 #[.int .u64 m, .slice A l.length c] w fun e w' => e = .returned (.int .u64 r) ∧ Below w.heap.size w w' := by
  unfold mark_Back.f at h
  split at h
  case isFalse => cases h
  case isTrue hb =>
  have hby := (bytesOk_iff l).1 hb
  clear hb
  obtain rfl := Option.some.inj h
  have HR := Aside0.mk hr
  have HI := Aside0.mk (P.mark_inverse.calls 10 14886173955864302971 (w.alloc (.cells #[.slice A l.length c] 22)) inverse_is)
  clear hr hc h
  go_enter Try.func43, Try.ntmps43
  go_wp2_with fail
  refine HI.out.mono ?_
  rintro e w1 ⟨rfl, ⟨⟨nd, rfl⟩⟩⟩
  go_wp2_with fail
  refine (steps_back m A c l w.heap.size (w.heap.size + 1) _ hby (Kd.C_alloc (Kd.C_drewN (Kd.C_alloc HR.out _) nd) _) (blk_alloc (blk_drewN (heap_alloc_new w _) nd) _) ?_).mono ?_
  · have h1 := heap_alloc_new ((w.alloc (.cells #[.slice A l.length c] 22)).drewN nd) (.cells #[.int .u64 14886173955864302971] 23 (0, 0))
    simpa using h1
  · rintro e w' ⟨rfl, hd⟩
    have HB := Aside0.mk (below_step (below_alloc (pw_below_drewN (below_alloc (Below.refl _ w) _) nd) _) hd.below)
    clear hd
    go_wp2_with fail
    go_returns
    exact ⟨rfl, HB.out⟩

end Go.Proofs.Ytanijhlpneiebaa.G
