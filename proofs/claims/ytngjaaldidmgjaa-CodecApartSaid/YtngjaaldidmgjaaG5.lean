/- Contracts of Read, Int, Left, Place, Bad, over the seat's translation. -/
import Derived.Test.YtngjaaldidmgjaaG4
namespace Go.Proofs.Ytngjaaldidmgjaa.G
open Go.RowKit Go.Proofs.YtngjaaldidmgjaaW.PrintWords Go.Proofs.YtngjaaldidmgjaaW.PrintLast Go.Proofs.YtngjaaldidmgjaaW.PrintMore
set_option linter.unusedVariables false
set_option linter.unusedSimpArgs false

set_option maxHeartbeats 1000000 in
set_option maxRecDepth 100000 in
theorem ScRead (A : Option Addr) (c : Nat) (l : List Int) (w : World) (hr : Kd.C (Kd.int .u8) w A l.length l) (hc : l.length ≤ c) (hl : l.length < 140737488355328) (hby : ∀ x ∈ l, 0 ≤ x ∧ x ≤ 255) :
    Calls Try.prog 58 #[.slice A l.length c] w fun e w' => ∃ g, e = .returned (.pointer (some ⟨g, 0, none⟩)) ∧ IsScan w' w.heap.size (fun _ => True) g l 0 false ∧ Below w.heap.size w w' := by
  have hf : slices_Clone.f l = some l := by unfold slices_Clone.f; rw [if_pos hl]
  have HC := Aside0.mk (slices_Clone.calls A c l l w hr hc hf)
  have HBy := Aside0.mk hby
  clear hr hf hby
  go_enter Try.func58, Try.ntmps58
  go_wp2_with fail
  refine HC.out.mono ?_
  rintro e w1 ⟨v, rfl, hv, hb⟩
  obtain ⟨A', c', rfl⟩ := Kd.R_slice hv
  have HV := Aside0.mk hv
  have HB := Aside0.mk hb
  clear hv hb
  go_wp2_with fail
  go_returns
  refine ⟨_, rfl, ⟨_, heap_alloc_new _ _, HB.out.size, trivial, Kd.R_below HV.out (below_alloc (Below.refl _ _) _), Nat.zero_le _, HBy.out, by omega⟩, HB.out.alloc HB.out.size _⟩

set_option maxHeartbeats 1000000 in
set_option maxRecDepth 100000 in
theorem ScLeft (base : Nat) (ok : Nat → Prop) (g : Nat) (bs : List Int) (pl : Nat) (bad : Bool) (w : World) (hI : IsScan w base ok g bs pl bad) :
    Calls Try.prog 59 #[.pointer (some ⟨g, 0, none⟩)] w fun e w' => e = .returned (.int .i64 ((bs.length : Int) - pl)) ∧ Drawn0 w w' := by
  obtain ⟨v, hb, hg, hok, hr, h2, h3, h4⟩ := hI
  obtain ⟨A, c, rfl, hlc, hC⟩ := Kd.R_reads hr
  have q0 : w.cell? ⟨g, 0, none⟩ = some (.slice A bs.length c) := (blk_cell hb 0).trans rfl
  have q1 : w.cell? ⟨g, 1, none⟩ = some (.int .i64 pl) := (blk_cell hb 1).trans rfl
  clear hb hr hC h3
  go_enter Try.func59, Try.ntmps59
  go_wp2_with fail
  go_quiet (fail)
  go_wp2_with fail
  go_returns
  exact ⟨rfl, ⟨⟨_, rfl⟩⟩⟩

set_option maxHeartbeats 1000000 in
set_option maxRecDepth 100000 in
theorem ScPlace (base : Nat) (ok : Nat → Prop) (g : Nat) (bs : List Int) (pl : Nat) (bad : Bool) (w : World) (hI : IsScan w base ok g bs pl bad) :
    Calls Try.prog 111 #[.pointer (some ⟨g, 0, none⟩)] w fun e w' => e = .returned (.int .i64 (pl : Int)) ∧ Drawn0 w w' := by
  obtain ⟨v, hb, hg, hok, hr, h2, h3, h4⟩ := hI
  have q1 : w.cell? ⟨g, 1, none⟩ = some (.int .i64 pl) := (blk_cell hb 1).trans rfl
  clear hb hr h3
  go_enter Try.func111, Try.ntmps111
  go_wp2_with fail
  go_returns
  exact ⟨rfl, Drawn0.refl _⟩

set_option maxHeartbeats 1000000 in
set_option maxRecDepth 100000 in
theorem ScBadq (base : Nat) (ok : Nat → Prop) (g : Nat) (bs : List Int) (pl : Nat) (bad : Bool) (w : World) (hI : IsScan w base ok g bs pl bad) :
    Calls Try.prog 62 #[.pointer (some ⟨g, 0, none⟩)] w fun e w' => e = .returned (.bool bad) ∧ Drawn0 w w' := by
  obtain ⟨v, hb, hg, hok, hr, h2, h3, h4⟩ := hI
  have q1 : w.cell? ⟨g, 2, none⟩ = some (.bool bad) := (blk_cell hb 2).trans rfl
  clear hb hr h3
  go_enter Try.func62, Try.ntmps62
  go_wp2_with fail
  go_returns
  exact ⟨rfl, Drawn0.refl _⟩

/-- A number of so many bytes, with its sign. -/
def signed (s : Int) (x : Int) : Int := if isSize s = true then (if x < 256 ^ s.toNat / 2 then x else x - 256 ^ s.toNat) else 0

theorem pow_le256 {a b : Nat} (h : a ≤ b) : (256 : Int) ^ a ≤ 256 ^ b := by
  induction h with
  | refl => exact Int.le_refl _
  | step _ ih =>
    rw [Int.pow_succ]
    have := Int.pow_nonneg (n := 256) (m := a) (by decide)
    omega
theorem scTake_range (bs : List Int) (pl : Nat) (bad : Bool) (n : Int) (hby : ∀ x ∈ bs, 0 ≤ x ∧ x ≤ 255) : 0 ≤ num (scTake bs pl bad n) ∧ num (scTake bs pl bad n) < 256 ^ n.toNat := by
  have hm : ∀ x ∈ scTake bs pl bad n, 0 ≤ x ∧ x ≤ 255 := fun x hx => by
    unfold scTake at hx
    split at hx
    · exact hby x (List.mem_of_mem_drop (List.mem_of_mem_take hx))
    · simp at hx
  have hl : (scTake bs pl bad n).length ≤ n.toNat := by
    unfold scTake
    split
    · rw [List.length_take]; omega
    · simp
  have h := num_range _ hm
  exact ⟨h.1, Int.lt_of_lt_of_le h.2 (pow_le256 hl)⟩
theorem IsScan.bytes {w : World} {base : Nat} {ok : Nat → Prop} {g : Nat} {bs : List Int} {pl : Nat} {bad : Bool} (h : IsScan w base ok g bs pl bad) : ∀ x ∈ bs, 0 ≤ x ∧ x ≤ 255 := by
  obtain ⟨v, _, _, _, _, _, h3, _⟩ := h
  exact h3
theorem IsScan.place {w : World} {base : Nat} {ok : Nat → Prop} {g : Nat} {bs : List Int} {pl : Nat} {bad : Bool} (h : IsScan w base ok g bs pl bad) : pl ≤ bs.length := by
  obtain ⟨v, _, _, _, _, h3, _⟩ := h
  exact h3

theorem shift_1 (x : Int) (h0 : 0 ≤ x) (h1 : x < 256 ^ (1 : Int).toNat) : wrap64 (wrap64 x * 72057594037927936) / 72057594037927936 = signed 1 x := by
  have e : (256 : Int) ^ (1 : Int).toNat = 256 := by decide
  have e2 : isSize 1 = true := by decide
  unfold signed
  rw [if_pos e2]
  rw [e] at h1 ⊢
  unfold wrap64
  split <;> omega
set_option maxHeartbeats 1000000 in
set_option maxRecDepth 100000 in
theorem ScInt_1 (base : Nat) (ok : Nat → Prop) (g : Nat) (bs : List Int) (pl : Nat) (bad : Bool) (w : World) (hI : IsScan w base ok g bs pl bad) :
    Calls Try.prog 112 #[.pointer (some ⟨g, 0, none⟩), .int .i64 1] w fun e w' => e = .returned (.int .i64 (signed 1 (num (scTake bs pl bad 1)))) ∧
      IsScan w' base ok g bs (scPl bs.length pl bad 1) (scBad bs.length pl bad 1) ∧ Fr (· = g) w w' := by
  have HN := Aside0.mk (ScNum base ok g bs pl bad 1 w hI)
  have HX := Aside0.mk (shift_1 _ (scTake_range bs pl bad 1 hI.bytes).1 (scTake_range bs pl bad 1 hI.bytes).2)
  rw [show sizeOr 1 = 1 from rfl] at HN
  go_enter Try.func112, Try.ntmps112
  go_wp2_with fail
  refine HN.out.mono ?_
  rintro e w1 ⟨rfl, hi, hfr⟩
  have HI := Aside0.mk hi
  have HR := Aside0.mk hfr
  clear hi hfr hI HN
  go_wp2_with (go_at_call 102; refine (sized _ _).mono ?_; rintro e w' ⟨rfl, rfl⟩; simp only [show isSize 1 = true from rfl])
  go_returns
  exact ⟨by rw [← HX.out]; rfl, HI.out, HR.out⟩

theorem shift_2 (x : Int) (h0 : 0 ≤ x) (h1 : x < 256 ^ (2 : Int).toNat) : wrap64 (wrap64 x * 281474976710656) / 281474976710656 = signed 2 x := by
  have e : (256 : Int) ^ (2 : Int).toNat = 65536 := by decide
  have e2 : isSize 2 = true := by decide
  unfold signed
  rw [if_pos e2]
  rw [e] at h1 ⊢
  unfold wrap64
  split <;> omega
set_option maxHeartbeats 1000000 in
set_option maxRecDepth 100000 in
theorem ScInt_2 (base : Nat) (ok : Nat → Prop) (g : Nat) (bs : List Int) (pl : Nat) (bad : Bool) (w : World) (hI : IsScan w base ok g bs pl bad) :
    Calls Try.prog 112 #[.pointer (some ⟨g, 0, none⟩), .int .i64 2] w fun e w' => e = .returned (.int .i64 (signed 2 (num (scTake bs pl bad 2)))) ∧
      IsScan w' base ok g bs (scPl bs.length pl bad 2) (scBad bs.length pl bad 2) ∧ Fr (· = g) w w' := by
  have HN := Aside0.mk (ScNum base ok g bs pl bad 2 w hI)
  have HX := Aside0.mk (shift_2 _ (scTake_range bs pl bad 2 hI.bytes).1 (scTake_range bs pl bad 2 hI.bytes).2)
  rw [show sizeOr 2 = 2 from rfl] at HN
  go_enter Try.func112, Try.ntmps112
  go_wp2_with fail
  refine HN.out.mono ?_
  rintro e w1 ⟨rfl, hi, hfr⟩
  have HI := Aside0.mk hi
  have HR := Aside0.mk hfr
  clear hi hfr hI HN
  go_wp2_with (go_at_call 102; refine (sized _ _).mono ?_; rintro e w' ⟨rfl, rfl⟩; simp only [show isSize 2 = true from rfl])
  go_returns
  exact ⟨by rw [← HX.out]; rfl, HI.out, HR.out⟩

theorem shift_3 (x : Int) (h0 : 0 ≤ x) (h1 : x < 256 ^ (3 : Int).toNat) : wrap64 (wrap64 x * 1099511627776) / 1099511627776 = signed 3 x := by
  have e : (256 : Int) ^ (3 : Int).toNat = 16777216 := by decide
  have e2 : isSize 3 = true := by decide
  unfold signed
  rw [if_pos e2]
  rw [e] at h1 ⊢
  unfold wrap64
  split <;> omega
set_option maxHeartbeats 1000000 in
set_option maxRecDepth 100000 in
theorem ScInt_3 (base : Nat) (ok : Nat → Prop) (g : Nat) (bs : List Int) (pl : Nat) (bad : Bool) (w : World) (hI : IsScan w base ok g bs pl bad) :
    Calls Try.prog 112 #[.pointer (some ⟨g, 0, none⟩), .int .i64 3] w fun e w' => e = .returned (.int .i64 (signed 3 (num (scTake bs pl bad 3)))) ∧
      IsScan w' base ok g bs (scPl bs.length pl bad 3) (scBad bs.length pl bad 3) ∧ Fr (· = g) w w' := by
  have HN := Aside0.mk (ScNum base ok g bs pl bad 3 w hI)
  have HX := Aside0.mk (shift_3 _ (scTake_range bs pl bad 3 hI.bytes).1 (scTake_range bs pl bad 3 hI.bytes).2)
  rw [show sizeOr 3 = 3 from rfl] at HN
  go_enter Try.func112, Try.ntmps112
  go_wp2_with fail
  refine HN.out.mono ?_
  rintro e w1 ⟨rfl, hi, hfr⟩
  have HI := Aside0.mk hi
  have HR := Aside0.mk hfr
  clear hi hfr hI HN
  go_wp2_with (go_at_call 102; refine (sized _ _).mono ?_; rintro e w' ⟨rfl, rfl⟩; simp only [show isSize 3 = true from rfl])
  go_returns
  exact ⟨by rw [← HX.out]; rfl, HI.out, HR.out⟩

theorem shift_4 (x : Int) (h0 : 0 ≤ x) (h1 : x < 256 ^ (4 : Int).toNat) : wrap64 (wrap64 x * 4294967296) / 4294967296 = signed 4 x := by
  have e : (256 : Int) ^ (4 : Int).toNat = 4294967296 := by decide
  have e2 : isSize 4 = true := by decide
  unfold signed
  rw [if_pos e2]
  rw [e] at h1 ⊢
  unfold wrap64
  split <;> omega
set_option maxHeartbeats 1000000 in
set_option maxRecDepth 100000 in
theorem ScInt_4 (base : Nat) (ok : Nat → Prop) (g : Nat) (bs : List Int) (pl : Nat) (bad : Bool) (w : World) (hI : IsScan w base ok g bs pl bad) :
    Calls Try.prog 112 #[.pointer (some ⟨g, 0, none⟩), .int .i64 4] w fun e w' => e = .returned (.int .i64 (signed 4 (num (scTake bs pl bad 4)))) ∧
      IsScan w' base ok g bs (scPl bs.length pl bad 4) (scBad bs.length pl bad 4) ∧ Fr (· = g) w w' := by
  have HN := Aside0.mk (ScNum base ok g bs pl bad 4 w hI)
  have HX := Aside0.mk (shift_4 _ (scTake_range bs pl bad 4 hI.bytes).1 (scTake_range bs pl bad 4 hI.bytes).2)
  rw [show sizeOr 4 = 4 from rfl] at HN
  go_enter Try.func112, Try.ntmps112
  go_wp2_with fail
  refine HN.out.mono ?_
  rintro e w1 ⟨rfl, hi, hfr⟩
  have HI := Aside0.mk hi
  have HR := Aside0.mk hfr
  clear hi hfr hI HN
  go_wp2_with (go_at_call 102; refine (sized _ _).mono ?_; rintro e w' ⟨rfl, rfl⟩; simp only [show isSize 4 = true from rfl])
  go_returns
  exact ⟨by rw [← HX.out]; rfl, HI.out, HR.out⟩

theorem shift_5 (x : Int) (h0 : 0 ≤ x) (h1 : x < 256 ^ (5 : Int).toNat) : wrap64 (wrap64 x * 16777216) / 16777216 = signed 5 x := by
  have e : (256 : Int) ^ (5 : Int).toNat = 1099511627776 := by decide
  have e2 : isSize 5 = true := by decide
  unfold signed
  rw [if_pos e2]
  rw [e] at h1 ⊢
  unfold wrap64
  split <;> omega
set_option maxHeartbeats 1000000 in
set_option maxRecDepth 100000 in
theorem ScInt_5 (base : Nat) (ok : Nat → Prop) (g : Nat) (bs : List Int) (pl : Nat) (bad : Bool) (w : World) (hI : IsScan w base ok g bs pl bad) :
    Calls Try.prog 112 #[.pointer (some ⟨g, 0, none⟩), .int .i64 5] w fun e w' => e = .returned (.int .i64 (signed 5 (num (scTake bs pl bad 5)))) ∧
      IsScan w' base ok g bs (scPl bs.length pl bad 5) (scBad bs.length pl bad 5) ∧ Fr (· = g) w w' := by
  have HN := Aside0.mk (ScNum base ok g bs pl bad 5 w hI)
  have HX := Aside0.mk (shift_5 _ (scTake_range bs pl bad 5 hI.bytes).1 (scTake_range bs pl bad 5 hI.bytes).2)
  rw [show sizeOr 5 = 5 from rfl] at HN
  go_enter Try.func112, Try.ntmps112
  go_wp2_with fail
  refine HN.out.mono ?_
  rintro e w1 ⟨rfl, hi, hfr⟩
  have HI := Aside0.mk hi
  have HR := Aside0.mk hfr
  clear hi hfr hI HN
  go_wp2_with (go_at_call 102; refine (sized _ _).mono ?_; rintro e w' ⟨rfl, rfl⟩; simp only [show isSize 5 = true from rfl])
  go_returns
  exact ⟨by rw [← HX.out]; rfl, HI.out, HR.out⟩

theorem shift_6 (x : Int) (h0 : 0 ≤ x) (h1 : x < 256 ^ (6 : Int).toNat) : wrap64 (wrap64 x * 65536) / 65536 = signed 6 x := by
  have e : (256 : Int) ^ (6 : Int).toNat = 281474976710656 := by decide
  have e2 : isSize 6 = true := by decide
  unfold signed
  rw [if_pos e2]
  rw [e] at h1 ⊢
  unfold wrap64
  split <;> omega
set_option maxHeartbeats 1000000 in
set_option maxRecDepth 100000 in
theorem ScInt_6 (base : Nat) (ok : Nat → Prop) (g : Nat) (bs : List Int) (pl : Nat) (bad : Bool) (w : World) (hI : IsScan w base ok g bs pl bad) :
    Calls Try.prog 112 #[.pointer (some ⟨g, 0, none⟩), .int .i64 6] w fun e w' => e = .returned (.int .i64 (signed 6 (num (scTake bs pl bad 6)))) ∧
      IsScan w' base ok g bs (scPl bs.length pl bad 6) (scBad bs.length pl bad 6) ∧ Fr (· = g) w w' := by
  have HN := Aside0.mk (ScNum base ok g bs pl bad 6 w hI)
  have HX := Aside0.mk (shift_6 _ (scTake_range bs pl bad 6 hI.bytes).1 (scTake_range bs pl bad 6 hI.bytes).2)
  rw [show sizeOr 6 = 6 from rfl] at HN
  go_enter Try.func112, Try.ntmps112
  go_wp2_with fail
  refine HN.out.mono ?_
  rintro e w1 ⟨rfl, hi, hfr⟩
  have HI := Aside0.mk hi
  have HR := Aside0.mk hfr
  clear hi hfr hI HN
  go_wp2_with (go_at_call 102; refine (sized _ _).mono ?_; rintro e w' ⟨rfl, rfl⟩; simp only [show isSize 6 = true from rfl])
  go_returns
  exact ⟨by rw [← HX.out]; rfl, HI.out, HR.out⟩

theorem shift_7 (x : Int) (h0 : 0 ≤ x) (h1 : x < 256 ^ (7 : Int).toNat) : wrap64 (wrap64 x * 256) / 256 = signed 7 x := by
  have e : (256 : Int) ^ (7 : Int).toNat = 72057594037927936 := by decide
  have e2 : isSize 7 = true := by decide
  unfold signed
  rw [if_pos e2]
  rw [e] at h1 ⊢
  unfold wrap64
  split <;> omega
set_option maxHeartbeats 1000000 in
set_option maxRecDepth 100000 in
theorem ScInt_7 (base : Nat) (ok : Nat → Prop) (g : Nat) (bs : List Int) (pl : Nat) (bad : Bool) (w : World) (hI : IsScan w base ok g bs pl bad) :
    Calls Try.prog 112 #[.pointer (some ⟨g, 0, none⟩), .int .i64 7] w fun e w' => e = .returned (.int .i64 (signed 7 (num (scTake bs pl bad 7)))) ∧
      IsScan w' base ok g bs (scPl bs.length pl bad 7) (scBad bs.length pl bad 7) ∧ Fr (· = g) w w' := by
  have HN := Aside0.mk (ScNum base ok g bs pl bad 7 w hI)
  have HX := Aside0.mk (shift_7 _ (scTake_range bs pl bad 7 hI.bytes).1 (scTake_range bs pl bad 7 hI.bytes).2)
  rw [show sizeOr 7 = 7 from rfl] at HN
  go_enter Try.func112, Try.ntmps112
  go_wp2_with fail
  refine HN.out.mono ?_
  rintro e w1 ⟨rfl, hi, hfr⟩
  have HI := Aside0.mk hi
  have HR := Aside0.mk hfr
  clear hi hfr hI HN
  go_wp2_with (go_at_call 102; refine (sized _ _).mono ?_; rintro e w' ⟨rfl, rfl⟩; simp only [show isSize 7 = true from rfl])
  go_returns
  exact ⟨by rw [← HX.out]; rfl, HI.out, HR.out⟩

theorem shift_8 (x : Int) (h0 : 0 ≤ x) (h1 : x < 256 ^ (8 : Int).toNat) : wrap64 (wrap64 x) = signed 8 x := by
  have e : (256 : Int) ^ (8 : Int).toNat = 18446744073709551616 := by decide
  have e2 : isSize 8 = true := by decide
  unfold signed
  rw [if_pos e2]
  rw [e] at h1 ⊢
  unfold wrap64
  split <;> omega
set_option maxHeartbeats 1000000 in
set_option maxRecDepth 100000 in
theorem ScInt_8 (base : Nat) (ok : Nat → Prop) (g : Nat) (bs : List Int) (pl : Nat) (bad : Bool) (w : World) (hI : IsScan w base ok g bs pl bad) :
    Calls Try.prog 112 #[.pointer (some ⟨g, 0, none⟩), .int .i64 8] w fun e w' => e = .returned (.int .i64 (signed 8 (num (scTake bs pl bad 8)))) ∧
      IsScan w' base ok g bs (scPl bs.length pl bad 8) (scBad bs.length pl bad 8) ∧ Fr (· = g) w w' := by
  have HN := Aside0.mk (ScNum base ok g bs pl bad 8 w hI)
  have HX := Aside0.mk (shift_8 _ (scTake_range bs pl bad 8 hI.bytes).1 (scTake_range bs pl bad 8 hI.bytes).2)
  rw [show sizeOr 8 = 8 from rfl] at HN
  go_enter Try.func112, Try.ntmps112
  go_wp2_with fail
  refine HN.out.mono ?_
  rintro e w1 ⟨rfl, hi, hfr⟩
  have HI := Aside0.mk hi
  have HR := Aside0.mk hfr
  clear hi hfr hI HN
  go_wp2_with (go_at_call 102; refine (sized _ _).mono ?_; rintro e w' ⟨rfl, rfl⟩; simp only [show isSize 8 = true from rfl])
  go_returns
  exact ⟨by rw [← HX.out]; rfl, HI.out, HR.out⟩

set_option maxHeartbeats 1000000 in
set_option maxRecDepth 100000 in
theorem ScInt (base : Nat) (ok : Nat → Prop) (g : Nat) (bs : List Int) (pl : Nat) (bad : Bool) (n : Int) (w : World) (hI : IsScan w base ok g bs pl bad) :
    Calls Try.prog 112 #[.pointer (some ⟨g, 0, none⟩), .int .i64 n] w fun e w' => e = .returned (.int .i64 (signed n (num (scTake bs pl bad (sizeOr n))))) ∧
      IsScan w' base ok g bs (scPl bs.length pl bad (sizeOr n)) (scBad bs.length pl bad (sizeOr n)) ∧ Fr (· = g) w w' := by
  cases hs : isSize n with
  | true =>
    rw [sizeOr_yes hs]
    have hs' : 1 ≤ n ∧ n ≤ 8 := by simpa [isSize] using hs
    have hk : n = 1 ∨ n = 2 ∨ n = 3 ∨ n = 4 ∨ n = 5 ∨ n = 6 ∨ n = 7 ∨ n = 8 := by omega
    rcases hk with rfl | rfl | rfl | rfl | rfl | rfl | rfl | rfl
    · exact ScInt_1 base ok g bs pl bad w hI
    · exact ScInt_2 base ok g bs pl bad w hI
    · exact ScInt_3 base ok g bs pl bad w hI
    · exact ScInt_4 base ok g bs pl bad w hI
    · exact ScInt_5 base ok g bs pl bad w hI
    · exact ScInt_6 base ok g bs pl bad w hI
    · exact ScInt_7 base ok g bs pl bad w hI
    · exact ScInt_8 base ok g bs pl bad w hI
  | false =>
    have HN := Aside0.mk (ScNum base ok g bs pl bad n w hI)
    have HX := Aside0.mk (show signed n (num (scTake bs pl bad (sizeOr n))) = 0 by unfold signed; rw [if_neg (by rw [hs]; decide)])
    have HS := Aside0.mk hs
    clear hs
    go_enter Try.func112, Try.ntmps112
    go_wp2_with fail
    refine HN.out.mono ?_
    rintro e w1 ⟨rfl, hi, hfr⟩
    have HI := Aside0.mk hi
    have HR := Aside0.mk hfr
    clear hi hfr hI HN
    go_wp2_with (go_at_call 102; refine (sized _ _).mono ?_; rintro e w' ⟨rfl, rfl⟩; simp only [HS.out])
    go_returns
    exact ⟨by rw [HX.out]; rfl, HI.out, HR.out⟩

theorem scTake_yes {bs : List Int} {pl : Nat} {bad : Bool} {n : Nat} (h : fits bs.length pl bad n = true) : scTake bs pl bad n = (bs.drop pl).take n := by unfold scTake; rw [h, if_pos rfl, Int.toNat_natCast]
theorem scTake_no {bs : List Int} {pl : Nat} {bad : Bool} {n : Int} (h : fits bs.length pl bad n = false) : scTake bs pl bad n = [] := by unfold scTake; rw [h]; rfl
theorem scPl_yes {len pl : Nat} {bad : Bool} {n : Nat} (h : fits len pl bad n = true) : scPl len pl bad n = pl + n := by unfold scPl; rw [h, if_pos rfl, Int.toNat_natCast]
theorem scPl_no {len pl : Nat} {bad : Bool} {n : Int} (h : fits len pl bad n = false) : scPl len pl bad n = pl := by unfold scPl; rw [h]; rfl
theorem scBad_yes {len pl : Nat} {bad : Bool} {n : Int} (h : fits len pl bad n = true) : scBad len pl bad n = false := by unfold scBad; rw [h]; rfl
theorem scBad_no {len pl : Nat} {bad : Bool} {n : Int} (h : fits len pl bad n = false) : scBad len pl bad n = true := by unfold scBad; rw [h]; rfl
theorem fits_yes (bs : List Int) (pl m : Nat) (h : m ≤ bs.length - pl) (hp : pl ≤ bs.length) : fits bs.length pl false m = true := by
  rw [fits_iff]; exact ⟨rfl, by omega, by omega⟩
theorem fits_no (len pl : Nat) (m : Int) (h : (len : Int) - pl < m) : fits len pl false m = false := by
  cases hf : fits len pl false m with
  | false => rfl
  | true => have := (fits_iff _ _ _ _).1 hf; omega
theorem fits_bad (len pl : Nat) (m : Int) : fits len pl true m = false := by simp [fits]
theorem IsScan.ok_g {w : World} {base : Nat} {ok : Nat → Prop} {g : Nat} {bs : List Int} {pl : Nat} {bad : Bool} (h : IsScan w base ok g bs pl bad) : ok g := by
  obtain ⟨v, _, _, h3, _⟩ := h
  exact h3
theorem IsScan.ge {w : World} {base : Nat} {ok : Nat → Prop} {g : Nat} {bs : List Int} {pl : Nat} {bad : Bool} (h : IsScan w base ok g bs pl bad) : base ≤ g := by
  obtain ⟨v, _, h2, _⟩ := h
  exact h2
end Go.Proofs.Ytngjaaldidmgjaa.G
