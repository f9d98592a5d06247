/- The reader of a record: its state, and the contract of ok. The reader of a record: its states in plain words; contract of vec. The reader of a record: contracts of drop, vacuum. The reader of a record: contract of write. The reader of a record: contracts of many (vectors, writes). The reader of a record: contracts of commit, train, create. -/
import Derived.Test.YtngjaaldidmgjaaME
import Derived.Test.YtngjaaldidmgjaaMC
import Derived.Deep.RegionHeld3
namespace Go.Proofs.Ytngjaaldidmgjaa.G

section
open Go.Shelf Go.RowKit Go.Proofs.YtngjaaldidmgjaaW.PrintWords Go.Proofs.YtngjaaldidmgjaaW.PrintLast Go.Proofs.YtngjaaldidmgjaaW.PrintMore
set_option linter.unusedVariables false
set_option linter.unusedSimpArgs false

/-- The reader at block r over the scan at block g; q: what was read so far. -/
def IsRr (w0 w : World) (ok : Nat → Prop) (r g : Nat) (q : C7) (A : Option Addr) (c : Nat) (bs : List Int) (pl : Nat) (sb rb : Bool) : Prop :=
  w.heap[r]? = some (.cells #[.pointer (some ⟨g, 0, none⟩), .slice A bs.length c, q.c0, q.c1, q.c2, q.c3, q.c4, q.c5, q.c6, .bool rb] 113 (0, 0)) ∧ ¬ ok r ∧ r ≠ g ∧ w0.heap.size ≤ r ∧ IsScan w w0.heap.size ok g bs pl sb ∧ Below w0.heap.size w0 w ∧ (∀ k, ok k → k < w.heap.size)

section
variable {w0 w w1 : World} {ok : Nat → Prop} {r g : Nat} {q : C7} {A : Option Addr} {c : Nat} {bs : List Int} {pl : Nat} {sb rb : Bool}
theorem IsRr.below (h : IsRr w0 w ok r g q A c bs pl sb rb) (hb : Below w.heap.size w w1) : IsRr w0 w1 ok r g q A c bs pl sb rb :=
  ⟨blk_below h.1 hb, h.2.1, h.2.2.1, h.2.2.2.1, h.2.2.2.2.1.fr (Fr.of_below (S := fun _ => False) hb) (fun _ _ h => h), below_step h.2.2.2.2.2.1 hb, fun k hk => Nat.lt_of_lt_of_le (h.2.2.2.2.2.2 k hk) hb.size⟩
theorem IsRr.scan (h : IsRr w0 w ok r g q A c bs pl sb rb) : IsScan w w0.heap.size ok g bs pl sb := h.2.2.2.2.1
theorem IsRr.base (h : IsRr w0 w ok r g q A c bs pl sb rb) : Below w0.heap.size w0 w := h.2.2.2.2.2.1
/-- What a step of the scan makes of the reader. -/
theorem IsRr.fr (h : IsRr w0 w ok r g q A c bs pl sb rb) (hf : Fr (· = g) w w1) {pl' : Nat} {sb' : Bool} (hI : IsScan w1 w0.heap.size ok g bs pl' sb') : IsRr w0 w1 ok r g q A c bs pl' sb' rb :=
  ⟨(hf.block (blk_lt h.1) h.2.2.1).trans h.1, h.2.1, h.2.2.1, h.2.2.2.1, hI, below_step' h.base (Below.refl _ _) hf (fun k hk => by rw [hk]; exact h.scan.ge), fun k hk => Nat.lt_of_lt_of_le (h.2.2.2.2.2.2 k hk) hf.size⟩
/-- A store into one of the record's cells. -/
theorem IsRr.set (h : IsRr w0 w ok r g q A c bs pl sb rb) (j : Nat) (u : Value) (q' : C7) (rb' : Bool)
    (he : (#[.pointer (some ⟨g, 0, none⟩), .slice A bs.length c, q.c0, q.c1, q.c2, q.c3, q.c4, q.c5, q.c6, .bool rb] : Array Value).setIfInBounds j u = #[.pointer (some ⟨g, 0, none⟩), .slice A bs.length c, q'.c0, q'.c1, q'.c2, q'.c3, q'.c4, q'.c5, q'.c6, .bool rb']) : IsRr w0 (w.setCell ⟨r, j, none⟩ u) ok r g q' A c bs pl sb rb' :=
  ⟨by rw [← he]; exact blk_set h.1 j u, h.2.1, h.2.2.1, h.2.2.2.1, h.scan.step (fun k hk _ => Below.heap_setCell w ⟨r, j, none⟩ u k (fun e => h.2.1 (by rw [← show k = r from e]; exact hk))), h.base.setCell (p := ⟨r, j, none⟩) h.2.2.2.1 _, fun k hk => by have := h.2.2.2.2.2.2 k hk; simpa [World.setCell] using this⟩
theorem IsRr.cells (h : IsRr w0 w ok r g q A c bs pl sb rb) : w.cell? ⟨r, 0, none⟩ = some (.pointer (some ⟨g, 0, none⟩)) ∧ w.cell? ⟨r, 1, none⟩ = some (.slice A bs.length c) ∧ w.cell? ⟨r, 9, none⟩ = some (.bool rb) :=
  ⟨(blk_cell h.1 0).trans rfl, (blk_cell h.1 1).trans rfl, (blk_cell h.1 9).trans rfl⟩
end

set_option maxHeartbeats 2000000 in
set_option maxRecDepth 100000 in
theorem rOk (w0 w : World) (ok : Nat → Prop) (r g : Nat) (q : C7) (A : Option Addr) (c : Nat) (bs : List Int) (pl : Nat) (sb rb : Bool) (hI : IsRr w0 w ok r g q A c bs pl sb rb) :
    Calls Try.prog 81 #[.pointer (some ⟨r, 0, none⟩)] w fun e w' => e = .returned (.bool (!rb && !sb)) ∧ Drawn0 w w' := by
  obtain ⟨q0, q1, q9⟩ := hI.cells
  have HB := Aside0.mk (ScBadq _ ok g bs pl sb w hI.scan)
  clear hI
  cases rb with
  | true =>
    go_enter Try.func81, Try.ntmps81
    go_wp2_with fail
    go_returns
    exact ⟨rfl, Drawn0.refl _⟩
  | false =>
    go_enter Try.func81, Try.ntmps81
    go_wp2_with fail
    refine HB.out.mono ?_
    rintro e w1 ⟨rfl, hd⟩
    have HD := Aside0.mk hd
    clear hd
    go_wp2_with fail
    go_returns
    exact ⟨by simp, HD.out⟩
end

section
open Go.Shelf Go.RowKit Go.Proofs.YtngjaaldidmgjaaW.PrintWords Go.Proofs.YtngjaaldidmgjaaW.PrintLast Go.Proofs.YtngjaaldidmgjaaW.PrintMore
set_option linter.unusedVariables false
set_option linter.unusedSimpArgs false

/-- Where the reader is: its place, whether the scan is bad, whether it is bad itself. -/
structure RS where
  (p : Nat) (s b : Bool)
def RS.ok (t : RS) : Bool := !t.b && !t.s
def sNum (bs : List Int) (n : Int) (t : RS) : RS := ⟨scPl bs.length t.p t.s n, scBad bs.length t.p t.s n, t.b⟩
def sVal (bs : List Int) (n : Int) (t : RS) : Int := num (scTake bs t.p t.s n)
/-- What vec takes. -/
def sVec (bs : List Int) (t : RS) : List Int × RS :=
  if t.ok = true then (if (takeVR (bs.drop t.p)).2.2 = 0 then ((takeVR (bs.drop t.p)).1, sNum bs (takeVR (bs.drop t.p)).2.1 t) else ([], ⟨t.p, t.s, true⟩)) else ([], t)

theorem bytesOk_drop {bs : List Int} (h : ∀ x ∈ bs, 0 ≤ x ∧ x ≤ 255) (n : Nat) : bytesOk (bs.drop n) = true := (bytesOk_iff _).2 (fun x hx => h x (List.mem_of_mem_drop hx))

set_option maxHeartbeats 4000000 in
set_option maxRecDepth 100000 in
theorem rVec (w0 w : World) (ok : Nat → Prop) (r g : Nat) (q : C7) (A : Option Addr) (c : Nat) (bs : List Int) (t : RS) (hI : IsRr w0 w ok r g q A c bs t.p t.s t.b) (hr : Kd.C (Kd.int .u8) w0 A bs.length bs) (hc : bs.length ≤ c) (hl : bs.length < 140737488355328) :
    Calls Try.prog 118 #[.pointer (some ⟨r, 0, none⟩)] w fun e w' => ∃ v, e = .returned v ∧ Kd.R (Kd.int .i32) 21 w' w.heap.size (fun _ => True) v (sVec bs t).1 ∧ IsRr w0 w' ok r g q A c bs (sVec bs t).2.p (sVec bs t).2.s (sVec bs t).2.b ∧ Fr (fun k => k = g ∨ k = r) w w' := by
  obtain ⟨pl, sb, rb⟩ := t
  simp only at hI
  obtain ⟨q0, q1, q9⟩ := hI.cells
  have HOKC := Aside0.mk (rOk w0 w ok r g q A c bs pl sb rb hI)
  by_cases hok : (RS.mk pl sb rb).ok = true
  case neg =>
    have e : sVec bs ⟨pl, sb, rb⟩ = ([], ⟨pl, sb, rb⟩) := by unfold sVec; rw [if_neg hok]
    rw [e]
    clear e
    have HI := Aside0.mk hI
    have hb : (!rb && !sb) = false := by simpa [RS.ok] using hok
    rw [hb] at HOKC
    clear hI hb hok
    go_enter Try.func118, Try.ntmps118
    go_wp2_with fail
    refine HOKC.out.mono ?_
    rintro e w1 ⟨rfl, hd⟩
    have HD := Aside0.mk hd.below
    clear hd
    go_wp2_with fail
    go_returns
    exact ⟨_, rfl, Kd.R_nil _ _ _ _ _, HI.out.below HD.out, Fr.of_below HD.out⟩
  obtain ⟨rfl, rfl⟩ : rb = false ∧ sb = false := by cases rb <;> cases sb <;> simp [RS.ok] at hok ⊢
  have hpl := hI.scan.place
  have hB := hI.base
  have hlen : (bs.drop pl).length = bs.length - pl := List.length_drop
  obtain ⟨i0, hi0, _, hsz0, _⟩ := info_parts info_u8
  obtain ⟨A2, hcut, hrd⟩ := print_cut_of (P := Try.prog) (Value.int .u8) 0 30 5 .i64 Try.underlying30 hi0 hsz0 A bs.length c pl hpl
  have hC2 : Kd.C (Kd.int .u8) w0 A2 (bs.length - pl) (bs.drop pl) := Kd.C_of_reads (h1 := fun _ => rfl) (hrd _ _ hc (Kd.reads_of_C hr))
  obtain ⟨tv, htv⟩ : ∃ tv, tv = takeVR (bs.drop pl) := ⟨_, rfl⟩
  have HSV := Aside0.mk (show sVec bs ⟨pl, false, false⟩ = (if tv.2.2 = 0 then (tv.1, sNum bs tv.2.1 ⟨pl, false, false⟩) else ([], ⟨pl, false, true⟩)) by unfold sVec; rw [if_pos (by rfl), htv])
  have HT := Aside0.mk (show ∀ W, Below w0.heap.size w0 W → Calls Try.prog 27 #[.slice A2 (bs.length - pl) (c - pl)] W fun e w' => ∃ v0_ : Value, e = .returned (.tuple #[v0_, .int .i64 tv.2.1, .int .i64 tv.2.2]) ∧ Kd.R (Kd.int .i32) 21 w' W.heap.size (fun _ => True) v0_ tv.1 ∧ Below W.heap.size W w' from fun W hb => by
    have h := codec_TakeVec.calls A2 (c - pl) (bs.drop pl) tv.1 tv.2.1 tv.2.2 W (by rw [hlen]; exact Kd.C_below hC2 hb) (by rw [hlen]; omega) (by unfold codec_TakeVec.f; rw [if_pos ⟨bytesOk_drop hI.scan.bytes _, by rw [hlen]; omega⟩, htv])
    rw [hlen] at h
    exact h)
  have HL := Aside0.mk (fun m => ScLeft _ ok g bs pl false (w.drewN m) (hI.scan.drewN m))
  have HI := Aside0.mk hI
  have HB := Aside0.mk hB
  have es : (bs.length : Int) - ((bs.length : Int) - (pl : Int)) = (pl : Int) := by omega
  have ew2 : IntKind.i64.wrap (pl : Int) = (pl : Int) := IntWalk.i64_in _ (by omega)
  have ew : IntKind.i64.wrap ((bs.length : Int) - ((bs.length : Int) - (pl : Int))) = (pl : Int) := by rw [es]; exact IntWalk.i64_in _ (by omega)
  clear hI hr hB hrd htv hlen hC2 hi0 hsz0 es hpl hok
  generalize sVec bs ⟨pl, false, false⟩ = res at *
  obtain ⟨t1, t2, t3⟩ := tv
  simp only at HT HSV
  go_enter Try.func118, Try.ntmps118
  go_wp2_with fail
  refine HOKC.out.mono ?_
  rintro e w1 ⟨rfl, ⟨⟨k1, rfl⟩⟩⟩
  go_upto_region 3 with (fail)
  go_region_held3 (fun w' => w'.cell? ⟨r, 0, none⟩ = some (.pointer (some ⟨g, 0, none⟩)) ∧ w'.cell? ⟨r, 1, none⟩ = some (.slice A bs.length c)) (go_keep)
    (first
      | (go_at_call 59; refine (HL.out _).mono ?_; rintro e w2 ⟨rfl, ⟨⟨k2, rfl⟩⟩⟩)
      | (go_at_call 27; refine (HT.out _ (by repeat (first | exact HB.out | apply below_drew1 | apply pw_below_drewN))).mono ?_; rintro e w3 ⟨v3, rfl, ho, hb⟩; have hbw : Below w.heap.size w w3 := (by repeat (first | exact Below.refl _ _ | apply below_drew1 | apply pw_below_drewN) : Below w.heap.size w _).trans hb; have HO := Aside0.mk (show Kd.R (Kd.int .i32) 21 w3 w.heap.size (fun _ => True) v3 t1 from ho); have HB3 := Aside0.mk hbw; have k0 : w3.cell? ⟨r, 0, none⟩ = some (.pointer (some ⟨g, 0, none⟩)) := (blk_cell (HI.out.below hbw).1 0).trans rfl; have k1 : w3.cell? ⟨r, 1, none⟩ = some (.slice A bs.length c) := (blk_cell (HI.out.below hbw).1 1).trans rfl; clear ho hb hbw))
  have HI3 := Aside0.mk (HI.out.below HB3.out)
  obtain ⟨wx, hwx⟩ : ∃ wx, wx = w3 := ⟨_, rfl⟩
  rw [← hwx]
  rw [← hwx] at HO HB3 HI3
  clear k0 k1 hwx
  clear q0 q1 q9 HL HT HOKC hcut ew ew2
  obtain ⟨q0, q1, q9⟩ := HI3.out.cells
  by_cases hz : t3 = 0
  · subst hz
    rw [if_pos rfl] at HSV
    have h := HSV.out
    subst h
    clear HSV
    have HBY := Aside0.mk (ScBytes _ ok g bs pl false t2 wx HI3.out.scan)
    obtain ⟨A3, c3, hv3⟩ := Kd.R_slice HO.out
    subst hv3
    go_wp2_with fail
    refine HBY.out.mono ?_
    rintro e w4 ⟨v4, rfl, ho4, hi4, hf4⟩
    have HI4 := Aside0.mk (HI3.out.fr hf4 hi4)
    have HO4 := Aside0.mk (show Kd.R (Kd.int .i32) 21 w4 w.heap.size (fun _ => True) (.slice A3 t1.length c3) t1 from Kd.R_mono (Kd.R_kept (Kd.R_bound HO.out) hf4.kept (fun k hk e => by have h1 := hk.2.1; have h2 := HI.out.scan.lt; omega)) (fun _ _ => trivial))
    have HF4 := Aside0.mk (((Fr.of_below (S := fun k => k = g ∨ k = r) HB3.out).trans (hf4.mono (fun k h => .inl h))))
    clear ho4 hi4 hf4 q0 q1 q9
    go_wp2_with fail
    go_returns
    exact ⟨_, rfl, HO4.out, HI4.out, HF4.out⟩
  · have hz2 : (t3 != 0) = true := by rw [bne_iff_ne]; exact hz
    rw [if_neg hz] at HSV
    have h := HSV.out
    subst h
    clear HSV
    clear hz
    have f9 : wx.frozen? ⟨r, 9, none⟩ = false := blk_frozen HI3.out.1 9
    go_wp2_with fail
    go_returns
    exact ⟨_, rfl, Kd.R_nil _ _ _ _ _, HI3.out.set 9 _ q true rfl, (Fr.of_below HB3.out).setCell (p := ⟨r, 9, none⟩) (.inl (.inr rfl)) _⟩
end

section
open Go.Shelf Go.RowKit Go.Proofs.YtngjaaldidmgjaaW.PrintWords Go.Proofs.YtngjaaldidmgjaaW.PrintLast Go.Proofs.YtngjaaldidmgjaaW.PrintMore
set_option linter.unusedVariables false
set_option linter.unusedSimpArgs false

set_option maxHeartbeats 2000000 in
set_option maxRecDepth 100000 in
theorem rVacuum (w0 w : World) (ok : Nat → Prop) (r g : Nat) (q : C7) (A : Option Addr) (c : Nat) (bs : List Int) (pl : Nat) (sb rb : Bool) (hI : IsRr w0 w ok r g q A c bs pl sb rb) (u2 : Int) (hu : q.c2 = .int .u64 u2) :
    Calls Try.prog 80 #[.pointer (some ⟨r, 0, none⟩)] w fun e w' => e = .returned (.tuple #[]) ∧ IsRr w0 w' ok r g { q with c2 := .int .u64 (num (scTake bs pl sb 8)) } A c bs (scPl bs.length pl sb 8) (scBad bs.length pl sb 8) rb ∧ Fr (fun k => k = g ∨ k = r) w w' := by
  obtain ⟨q0, q1, q9⟩ := hI.cells
  have HN := Aside0.mk (ScNum _ ok g bs pl sb 8 w hI.scan)
  rw [show sizeOr 8 = 8 from rfl] at HN
  have HI := Aside0.mk hI
  have HU := Aside0.mk hu
  clear hI hu
  go_enter Try.func80, Try.ntmps80
  go_wp2_with (go_at_call 61; refine HN.out.mono ?_; rintro e w1 ⟨rfl, hi, hf⟩; have h1 := HI.out.fr hf hi; have f4 : w1.frozen? ⟨r, 4, none⟩ = false := blk_frozen h1.1 4; have q4 : w1.cell? ⟨r, 4, none⟩ = some (.int .u64 u2) := (blk_cell h1.1 4).trans (by rw [← HU.out]; rfl); have H1 := Aside0.mk h1; have HF := Aside0.mk hf; clear hi hf h1)
  go_returns
  exact ⟨rfl, H1.out.set 4 _ _ rb rfl, (HF.out.mono (fun k h => .inl h)).setCell (p := ⟨r, 4, none⟩) (.inl (.inr rfl)) _⟩

set_option maxHeartbeats 2000000 in
set_option maxRecDepth 100000 in
theorem rDrop (w0 w : World) (ok : Nat → Prop) (r g : Nat) (q : C7) (A : Option Addr) (c : Nat) (bs : List Int) (pl : Nat) (sb rb : Bool) (hI : IsRr w0 w ok r g q A c bs pl sb rb) (u3 : Int) (hu : q.c3 = .int .i64 u3) :
    Calls Try.prog 78 #[.pointer (some ⟨r, 0, none⟩)] w fun e w' => e = .returned (.tuple #[]) ∧ IsRr w0 w' ok r g { q with c3 := .int .i64 (num (scTake bs pl sb 1)) } A c bs (scPl bs.length pl sb 1) (scBad bs.length pl sb 1) rb ∧ Fr (fun k => k = g ∨ k = r) w w' := by
  obtain ⟨q0, q1, q9⟩ := hI.cells
  have HN := Aside0.mk (ScNum _ ok g bs pl sb 1 w hI.scan)
  rw [show sizeOr 1 = 1 from rfl] at HN
  have hn0 := scTake_range bs pl sb 1 hI.scan.bytes
  rw [show (256 : Int) ^ (1 : Int).toNat = 256 by decide] at hn0
  obtain ⟨hn1, hn2⟩ := hn0
  generalize num (scTake bs pl sb 1) = n at *
  have HI := Aside0.mk hI
  have HU := Aside0.mk hu
  clear hI hu
  go_enter Try.func78, Try.ntmps78
  go_wp2_with (go_at_call 61; refine HN.out.mono ?_; rintro e w1 ⟨rfl, hi, hf⟩; have h1 := HI.out.fr hf hi; have f5 : w1.frozen? ⟨r, 5, none⟩ = false := blk_frozen h1.1 5; have q5 : w1.cell? ⟨r, 5, none⟩ = some (.int .i64 u3) := (blk_cell h1.1 5).trans (by rw [← HU.out]; rfl); have H1 := Aside0.mk h1; have HF := Aside0.mk hf; clear hi hf h1)
  go_returns
  exact ⟨rfl, H1.out.set 5 _ _ rb rfl, (HF.out.mono (fun k h => .inl h)).setCell (p := ⟨r, 5, none⟩) (.inl (.inr rfl)) _⟩
end

section
open Go.Shelf Go.RowKit Go.Proofs.YtngjaaldidmgjaaW.PrintWords Go.Proofs.YtngjaaldidmgjaaW.PrintLast Go.Proofs.YtngjaaldidmgjaaW.PrintMore
set_option linter.unusedVariables false
set_option linter.unusedSimpArgs false

/-- What write takes. -/
def sWrite (bs : List Int) (t : RS) : Wr × RS :=
  let t1 := sNum bs 1 t
  let t2 := sNum bs 8 t1
  let t3 := sNum bs 1 t2
  if sVal bs 1 t2 = 0 then (⟨sVal bs 1 t, sVal bs 8 t1, false, (sVec bs t3).1⟩, (sVec bs t3).2)
  else if sVal bs 1 t2 = 1 then (⟨sVal bs 1 t, sVal bs 8 t1, true, []⟩, t3)
  else (⟨sVal bs 1 t, sVal bs 8 t1, false, []⟩, ⟨t3.p, t3.s, true⟩)

theorem IsRr.frB {w0 w w1 : World} {ok : Nat → Prop} {r g : Nat} {q : C7} {A : Option Addr} {c : Nat} {bs : List Int} {pl : Nat} {sb rb : Bool} {B : Nat} (h : IsRr w0 w ok r g q A c bs pl sb rb) (hf : Fr (· = B) w w1) (hr : r ≠ B) (hB : ¬ ok B) (hge : w0.heap.size ≤ B) : IsRr w0 w1 ok r g q A c bs pl sb rb :=
  ⟨(hf.block (blk_lt h.1) hr).trans h.1, h.2.1, h.2.2.1, h.2.2.2.1, h.scan.step (fun k hk hlt => hf.block hlt (fun e => hB (e ▸ hk))), below_step' h.base (Below.refl _ _) hf (fun k hk => by rw [hk]; exact hge), fun k hk => Nat.lt_of_lt_of_le (h.2.2.2.2.2.2 k hk) hf.size⟩
theorem IsRr.notNew {w0 w : World} {ok : Nat → Prop} {r g : Nat} {q : C7} {A : Option Addr} {c : Nat} {bs : List Int} {pl : Nat} {sb rb : Bool} (h : IsRr w0 w ok r g q A c bs pl sb rb) : ¬ ok w.heap.size := fun e => Nat.lt_irrefl _ (h.2.2.2.2.2.2 _ e)

/-- A box of four cells written over with what it holds. -/
theorem box4 {w w1 : World} {B t : Nat} {a b c d : Value} (h : w.heap[B]? = some (.cells #[a, b, c, d] t (0, 0))) (hw : w1 = ((((w.setCell ⟨B, 0, none⟩ a).setCell ⟨B, 1, none⟩ b).setCell ⟨B, 2, none⟩ c).setCell ⟨B, 3, none⟩ d)) :
    w1.heap[B]? = some (.cells #[a, b, c, d] t (0, 0)) ∧ Fr (· = B) w w1 := by
  subst hw
  constructor
  · have h1 := blk_set h 0 a
    have h2 := blk_set h1 1 b
    have h3 := blk_set h2 2 c
    have h4 := blk_set h3 3 d
    simpa using h4
  · exact ((((Fr.refl (· = B) w).setCell (p := ⟨B, 0, none⟩) (.inl rfl) _).setCell (p := ⟨B, 1, none⟩) (.inl rfl) _).setCell (p := ⟨B, 2, none⟩) (.inl rfl) _).setCell (p := ⟨B, 3, none⟩) (.inl rfl) _

set_option maxHeartbeats 4000000 in
set_option maxRecDepth 100000 in
theorem rWrite (w0 w : World) (ok : Nat → Prop) (r g : Nat) (q : C7) (A : Option Addr) (c : Nat) (bs : List Int) (t : RS) (hI : IsRr w0 w ok r g q A c bs t.p t.s t.b) (hr : Kd.C (Kd.int .u8) w0 A bs.length bs) (hc : bs.length ≤ c) (hl : bs.length < 140737488355328) :
    Calls Try.prog 116 #[.pointer (some ⟨r, 0, none⟩)] w fun e w' => ∃ v, e = .returned (.agg #[.int .i64 (sWrite bs t).1.f0, .int .u64 (sWrite bs t).1.f1, .bool (sWrite bs t).1.f2, v]) ∧ Kd.R (Kd.int .i32) 21 w' w.heap.size (fun _ => True) v (sWrite bs t).1.f3 ∧ IsRr w0 w' ok r g q A c bs (sWrite bs t).2.p (sWrite bs t).2.s (sWrite bs t).2.b ∧ Fr (fun k => k = g ∨ k = r) w w' := by
  obtain ⟨w1, hw1⟩ : ∃ w1, w1 = w.alloc (.cells #[.int .i64 0, .int .u64 0, .bool false, .slice none 0 0] 87) := ⟨_, rfl⟩
  have hb1 : Below w.heap.size w w1 := by rw [hw1]; exact (Below.refl _ _).alloc (Nat.le_refl _) _
  have hX1 := show w1.heap[w.heap.size]? = some (.cells #[.int .i64 0, .int .u64 0, .bool false, .slice none 0 0] 87 (0, 0)) by rw [hw1]; exact heap_alloc_new w _
  have hrB : r ≠ w.heap.size := Nat.ne_of_lt (blk_lt hI.1)
  have hgB : g ≠ w.heap.size := Nat.ne_of_lt hI.scan.lt
  have hnB := hI.notNew
  have hsz := below_size hI.base
  have hI1 := hI.below hb1
  have hby := hI.scan.bytes
  have hn1 := scTake_range bs t.p t.s 1 hby
  rw [show (256 : Int) ^ (1 : Int).toNat = 256 by decide, show num (scTake bs t.p t.s 1) = sVal bs 1 t from rfl] at hn1
  obtain ⟨hna, hnb⟩ := hn1
  have HN1 := Aside0.mk (ScNum _ ok g bs t.p t.s 1 w1 hI1.scan)
  rw [show sizeOr 1 = 1 from rfl, show num (scTake bs t.p t.s 1) = sVal bs 1 t from rfl, show scPl bs.length t.p t.s 1 = (sNum bs 1 t).p from rfl, show scBad bs.length t.p t.s 1 = (sNum bs 1 t).s from rfl] at HN1
  obtain ⟨q0, q1, q9⟩ := hI1.cells
  have HI := Aside0.mk hI1
  have HX := Aside0.mk hX1
  have HB := Aside0.mk hb1
  have HW := Aside0.mk hw1
  have HRB := Aside0.mk hrB
  have HGB := Aside0.mk hgB
  have HNB := Aside0.mk hnB
  have HSZ := Aside0.mk hsz
  have HR := Aside0.mk hr
  have HWI := Aside0.mk hI
  have HBY := Aside0.mk hby
  obtain ⟨res, hres⟩ : ∃ res, res = sWrite bs t := ⟨_, rfl⟩
  rw [← hres]
  unfold sWrite at hres
  simp only at hres
  have htb : t.b = (sNum bs 1 t).b := rfl
  rw [htb] at HI
  generalize sVal bs 1 t = n1 at *
  obtain ⟨t1, ht1⟩ : ∃ t1, t1 = sNum bs 1 t := ⟨_, rfl⟩
  rw [← ht1] at HI HN1 hres
  clear hw1 hX1 hb1 hI hI1 hr hrB hgB hnB hsz hby htb ht1
  have HRES := Aside0.mk hres
  clear hres
  go_enter Try.func116, Try.ntmps116
  go_upto_region 1 with (fail)
  rw [← HW.out]
  clear HWI
  -- the collection
  go_wp2_with fail
  refine HN1.out.mono ?_
  rintro e w2 ⟨rfl, hi, hf⟩
  have hI2 := HI.out.fr hf hi
  have hX2 := hf.blk HX.out (fun e => HGB.out e.symm)
  have hf2 : Fr (fun k => k = g ∨ k = r) w w2 := (Fr.of_below HB.out).trans (hf.mono (fun k h => .inl h))
  have p0 : w2.cell? ⟨w.heap.size, 0, none⟩ = some (.int .i64 0) := (blk_cell hX2 0).trans rfl
  have fz : w2.frozen? ⟨w.heap.size, 0, none⟩ = false := blk_frozen hX2 0
  obtain ⟨w3, hw3⟩ : ∃ w3, w3 = w2.setCell ⟨w.heap.size, 0, none⟩ (.int .i64 n1) := ⟨_, rfl⟩
  have hf23 : Fr (· = w.heap.size) w2 w3 := by rw [hw3]; exact (Fr.refl (· = w.heap.size) w2).setCell (p := ⟨w.heap.size, 0, none⟩) (.inl rfl) _
  have hI3 := hI2.frB hf23 HRB.out HNB.out HSZ.out
  have hX3 : w3.heap[w.heap.size]? = some (.cells #[.int .i64 n1, .int .u64 0, .bool false, .slice none 0 0] 87 (0, 0)) := by rw [hw3]; simpa using blk_set hX2 0 (.int .i64 n1)
  have HF3 := Aside0.mk (hf2.low (hf23.toBelow hf2.size (fun k hk => by omega)))
  have HN2 := Aside0.mk (ScNum _ ok g bs t1.p t1.s 8 w3 hI3.scan)
  rw [show sizeOr 8 = 8 from rfl, show num (scTake bs t1.p t1.s 8) = sVal bs 8 t1 from rfl, show scPl bs.length t1.p t1.s 8 = (sNum bs 8 t1).p from rfl, show scBad bs.length t1.p t1.s 8 = (sNum bs 8 t1).s from rfl, ] at HN2
  have HI3 := Aside0.mk (show IsRr w0 w3 ok r g q A c bs t1.p t1.s (sNum bs 8 t1).b from hI3)
  have HX3 := Aside0.mk hX3
  have HW3 := Aside0.mk hw3
  generalize sVal bs 8 t1 = n2 at *
  clear q0 q1 q9
  obtain ⟨q0, q1, q9⟩ := hI3.cells
  generalize sNum bs 8 t1 = t2 at *
  clear HI HX HB HW HN1 hi hf hI2 hX2 hf2 hf23 hI3 hX3 hw3
  go_upto_region 2 with (fail)
  rw [← HW3.out]
  clear p0 fz HW3
  -- the id
  go_wp2_with fail
  refine HN2.out.mono ?_
  rintro e w4 ⟨rfl, hi, hf⟩
  have hI4 := HI3.out.fr hf hi
  have hX4 := hf.blk HX3.out (fun e => HGB.out e.symm)
  have hf4 : Fr (fun k => k = g ∨ k = r) w w4 := HF3.out.trans (hf.mono (fun k h => .inl h))
  have p1 : w4.cell? ⟨w.heap.size, 1, none⟩ = some (.int .u64 0) := (blk_cell hX4 1).trans rfl
  have fz : w4.frozen? ⟨w.heap.size, 1, none⟩ = false := blk_frozen hX4 1
  obtain ⟨w5, hw5⟩ : ∃ w5, w5 = w4.setCell ⟨w.heap.size, 1, none⟩ (.int .u64 n2) := ⟨_, rfl⟩
  have hf45 : Fr (· = w.heap.size) w4 w5 := by rw [hw5]; exact (Fr.refl (· = w.heap.size) w4).setCell (p := ⟨w.heap.size, 1, none⟩) (.inl rfl) _
  have hI5 := hI4.frB hf45 HRB.out HNB.out HSZ.out
  have hX5 : w5.heap[w.heap.size]? = some (.cells #[.int .i64 n1, .int .u64 n2, .bool false, .slice none 0 0] 87 (0, 0)) := by rw [hw5]; simpa using blk_set hX4 1 (.int .u64 n2)
  have HF5 := Aside0.mk (hf4.low (hf45.toBelow hf4.size (fun k hk => by omega)))
  have HN3 := Aside0.mk (ScNum _ ok g bs t2.p t2.s 1 w5 hI5.scan)
  rw [show sizeOr 1 = 1 from rfl, show num (scTake bs t2.p t2.s 1) = sVal bs 1 t2 from rfl, show scPl bs.length t2.p t2.s 1 = (sNum bs 1 t2).p from rfl, show scBad bs.length t2.p t2.s 1 = (sNum bs 1 t2).s from rfl] at HN3
  have HI5 := Aside0.mk (show IsRr w0 w5 ok r g q A c bs t2.p t2.s (sNum bs 1 t2).b from hI5)
  have HX5 := Aside0.mk hX5
  have HW5 := Aside0.mk hw5
  generalize sVal bs 1 t2 = n3 at *
  clear q0 q1 q9
  obtain ⟨q0, q1, q9⟩ := hI5.cells
  generalize sNum bs 1 t2 = t3 at *
  clear HI3 HX3 HF3 HN2 hi hf hI4 hX4 hf4 hf45 hI5 hX5 hw5
  go_upto_region 3 with (fail)
  rw [← HW5.out]
  clear p1 fz HW5
  -- the kind
  go_wp2_with fail
  refine HN3.out.mono ?_
  rintro e w6 ⟨rfl, hi, hf⟩
  have hI6 := HI5.out.fr hf hi
  have hX6 := hf.blk HX5.out (fun e => HGB.out e.symm)
  have hf6 : Fr (fun k => k = g ∨ k = r) w w6 := HF5.out.trans (hf.mono (fun k h => .inl h))
  have HI6 := Aside0.mk (show IsRr w0 w6 ok r g q A c bs t3.p t3.s t3.b from hI6)
  have HX6 := Aside0.mk hX6
  have HF6 := Aside0.mk hf6
  clear q0 q1 q9
  obtain ⟨q0, q1, q9⟩ := hI6.cells
  clear HI5 HX5 HF5 HN3 hi hf hI6 hX6 hf6 q0 q1
  by_cases hk0 : n3 = 0
  · subst hk0
    have h := HRES.out
    rw [if_pos rfl] at h
    have HV := Aside0.mk (rVec w0 w6 ok r g q A c bs t3 HI6.out HR.out hc hl)
    generalize sVec bs t3 = rv at *
    obtain ⟨xs, t4⟩ := rv
    simp only at HV h
    subst h
    clear HRES
    go_wp2_with fail
    refine HV.out.mono ?_
    rintro e w7 ⟨v, rfl, ho, hi, hf⟩
    have hX7 := hf.blk HX6.out (fun e => by rcases e with e | e; exact HGB.out e.symm; exact HRB.out e.symm)
    have hf7 : Fr (fun k => k = g ∨ k = r) w w7 := HF6.out.trans hf
    obtain ⟨A3, c3, hv3⟩ := Kd.R_slice ho
    subst hv3
    have p3 : w7.cell? ⟨w.heap.size, 3, none⟩ = some (.slice none 0 0) := (blk_cell hX7 3).trans rfl
    have fz : w7.frozen? ⟨w.heap.size, 3, none⟩ = false := blk_frozen hX7 3
    obtain ⟨w8, hw8⟩ : ∃ w8, w8 = w7.setCell ⟨w.heap.size, 3, none⟩ (.slice A3 xs.length c3) := ⟨_, rfl⟩
    have hf78 : Fr (· = w.heap.size) w7 w8 := by rw [hw8]; exact (Fr.refl (· = w.heap.size) w7).setCell (p := ⟨w.heap.size, 3, none⟩) (.inl rfl) _
    have hX8 : w8.heap[w.heap.size]? = some (.cells #[.int .i64 n1, .int .u64 n2, .bool false, .slice A3 xs.length c3] 87 (0, 0)) := by rw [hw8]; simpa using blk_set hX7 3 (.slice A3 xs.length c3)
    have HO8 := Aside0.mk (show Kd.R (Kd.int .i32) 21 w8 w.heap.size (fun _ => True) (.slice A3 xs.length c3) xs from Kd.R_lower (Kd.R_mono (Kd.R_kept (Kd.R_bound ho) hf78.kept (fun k hk e => by have h1 := hk.2.1; have h2 := blk_lt HX6.out; omega)) (fun _ _ => trivial)) HF6.out.size)
    have HI8 := Aside0.mk (hi.frB hf78 HRB.out HNB.out HSZ.out)
    have HF8 := Aside0.mk (hf7.low (hf78.toBelow hf7.size (fun k hk => by omega)))
    have HX8 := Aside0.mk hX8
    have HW8 := Aside0.mk hw8
    clear ho hi hf hX7 hf7 hf78 hX8 hw8 HX6 HF6 HI6 HV q9
    go_upto_region 9 with (fail)
    rw [← HW8.out]
    clear p3 fz HW8
    have e0 : w8.cell? ⟨w.heap.size, 0, none⟩ = some (.int .i64 n1) := (blk_cell HX8.out 0).trans rfl
    have e1 : w8.cell? ⟨w.heap.size, 1, none⟩ = some (.int .u64 n2) := (blk_cell HX8.out 1).trans rfl
    have e2 : w8.cell? ⟨w.heap.size, 2, none⟩ = some (.bool false) := (blk_cell HX8.out 2).trans rfl
    have e3 : w8.cell? ⟨w.heap.size, 3, none⟩ = some (.slice A3 xs.length c3) := (blk_cell HX8.out 3).trans rfl
    have f0 : w8.frozen? ⟨w.heap.size, 0, none⟩ = false := blk_frozen HX8.out 0
    have f1 : w8.frozen? ⟨w.heap.size, 1, none⟩ = false := blk_frozen HX8.out 1
    have f2 : w8.frozen? ⟨w.heap.size, 2, none⟩ = false := blk_frozen HX8.out 2
    have f3 : w8.frozen? ⟨w.heap.size, 3, none⟩ = false := blk_frozen HX8.out 3
    go_wp2_with fail
    obtain ⟨w9, hw9⟩ : ∃ w9, w9 = ((((w8.setCell ⟨w.heap.size, 0, none⟩ (.int .i64 n1)).setCell ⟨w.heap.size, 1, none⟩ (.int .u64 n2)).setCell ⟨w.heap.size, 2, none⟩ (.bool false)).setCell ⟨w.heap.size, 3, none⟩ (.slice A3 xs.length c3)) := ⟨_, rfl⟩
    rw [← hw9]
    obtain ⟨hX9, hf9⟩ := box4 HX8.out hw9
    have e0 : w9.cell? ⟨w.heap.size, 0, none⟩ = some (.int .i64 n1) := (blk_cell hX9 0).trans rfl
    have e1 : w9.cell? ⟨w.heap.size, 1, none⟩ = some (.int .u64 n2) := (blk_cell hX9 1).trans rfl
    have e2 : w9.cell? ⟨w.heap.size, 2, none⟩ = some (.bool false) := (blk_cell hX9 2).trans rfl
    have e3 : w9.cell? ⟨w.heap.size, 3, none⟩ = some (.slice A3 xs.length c3) := (blk_cell hX9 3).trans rfl
    refine bodyPost_ret (by simp [results, Try.results116, go_sem, e0, e1, e2, e3]; try rfl) rfl ?_
    exact ⟨_, rfl, Kd.R_mono (Kd.R_kept (Kd.R_types HO8.out HX8.out (by decide)) hf9.kept (fun k hk e => hk.2 e)) (fun _ _ => trivial), HI8.out.frB hf9 HRB.out HNB.out HSZ.out, HF8.out.low (hf9.toBelow HF8.out.size (fun k hk => by omega))⟩
  · have hk0b : (n3 == 0) = false := by rw [beq_eq_false_iff_ne]; exact hk0
    have hres := HRES.out
    rw [if_neg hk0] at hres
    clear HRES
    by_cases hk1 : n3 = 1
    · rw [if_pos hk1] at hres
      subst hres
      subst hk1
      clear hk0 hk0b
      have p2 : w6.cell? ⟨w.heap.size, 2, none⟩ = some (.bool false) := (blk_cell HX6.out 2).trans rfl
      have fz : w6.frozen? ⟨w.heap.size, 2, none⟩ = false := blk_frozen HX6.out 2
      obtain ⟨w8, hw8⟩ : ∃ w8, w8 = w6.setCell ⟨w.heap.size, 2, none⟩ (.bool true) := ⟨_, rfl⟩
      have hf78 : Fr (· = w.heap.size) w6 w8 := by rw [hw8]; exact (Fr.refl (· = w.heap.size) w6).setCell (p := ⟨w.heap.size, 2, none⟩) (.inl rfl) _
      have hX8 : w8.heap[w.heap.size]? = some (.cells #[.int .i64 n1, .int .u64 n2, .bool true, .slice none 0 0] 87 (0, 0)) := by rw [hw8]; simpa using blk_set HX6.out 2 (.bool true)
      have HI8 := Aside0.mk (HI6.out.frB hf78 HRB.out HNB.out HSZ.out)
      have HF8 := Aside0.mk (HF6.out.low (hf78.toBelow HF6.out.size (fun k hk => by omega)))
      have HW8 := Aside0.mk hw8
      clear hf78 hw8 HX6 HF6 HI6 q9
      go_upto_region 9 with (fail)
      rw [← HW8.out]
      clear p2 fz HW8
      have HX8 := Aside0.mk hX8
      have e0 : w8.cell? ⟨w.heap.size, 0, none⟩ = some (.int .i64 n1) := (blk_cell HX8.out 0).trans rfl
      have e1 : w8.cell? ⟨w.heap.size, 1, none⟩ = some (.int .u64 n2) := (blk_cell HX8.out 1).trans rfl
      have e2 : w8.cell? ⟨w.heap.size, 2, none⟩ = some (.bool true) := (blk_cell HX8.out 2).trans rfl
      have e3 : w8.cell? ⟨w.heap.size, 3, none⟩ = some (.slice none 0 0) := (blk_cell HX8.out 3).trans rfl
      have f0 : w8.frozen? ⟨w.heap.size, 0, none⟩ = false := blk_frozen HX8.out 0
      have f1 : w8.frozen? ⟨w.heap.size, 1, none⟩ = false := blk_frozen HX8.out 1
      have f2 : w8.frozen? ⟨w.heap.size, 2, none⟩ = false := blk_frozen HX8.out 2
      have f3 : w8.frozen? ⟨w.heap.size, 3, none⟩ = false := blk_frozen HX8.out 3
      clear hX8
      go_wp2_with fail
      obtain ⟨w9, hw9⟩ : ∃ w9, w9 = ((((w8.setCell ⟨w.heap.size, 0, none⟩ (.int .i64 n1)).setCell ⟨w.heap.size, 1, none⟩ (.int .u64 n2)).setCell ⟨w.heap.size, 2, none⟩ (.bool true)).setCell ⟨w.heap.size, 3, none⟩ (.slice none 0 0)) := ⟨_, rfl⟩
      rw [← hw9]
      obtain ⟨hX9, hf9⟩ := box4 HX8.out hw9
      have e0 : w9.cell? ⟨w.heap.size, 0, none⟩ = some (.int .i64 n1) := (blk_cell hX9 0).trans rfl
      have e1 : w9.cell? ⟨w.heap.size, 1, none⟩ = some (.int .u64 n2) := (blk_cell hX9 1).trans rfl
      have e2 : w9.cell? ⟨w.heap.size, 2, none⟩ = some (.bool true) := (blk_cell hX9 2).trans rfl
      have e3 : w9.cell? ⟨w.heap.size, 3, none⟩ = some (.slice none 0 0) := (blk_cell hX9 3).trans rfl
      refine bodyPost_ret (by simp [results, Try.results116, go_sem, e0, e1, e2, e3]; try rfl) rfl ?_
      exact ⟨_, rfl, Kd.R_nil _ _ _ _ _, HI8.out.frB hf9 HRB.out HNB.out HSZ.out, HF8.out.low (hf9.toBelow HF8.out.size (fun k hk => by omega))⟩
    · rw [if_neg hk1] at hres
      subst hres
      have hk1b : (n3 == 1) = false := by rw [beq_eq_false_iff_ne]; exact hk1
      clear hk0 hk1
      have f9 : w6.frozen? ⟨r, 9, none⟩ = false := blk_frozen HI6.out.1 9
      obtain ⟨w8, hw8⟩ : ∃ w8, w8 = w6.setCell ⟨r, 9, none⟩ (.bool true) := ⟨_, rfl⟩
      have hX8 : w8.heap[w.heap.size]? = some (.cells #[.int .i64 n1, .int .u64 n2, .bool false, .slice none 0 0] 87 (0, 0)) := by rw [hw8]; exact blk_far HX6.out (p := ⟨r, 9, none⟩) (fun e => HRB.out e.symm) _
      have HI8 := Aside0.mk (show IsRr w0 w8 ok r g q A c bs t3.p t3.s true by rw [hw8]; exact HI6.out.set 9 _ q true rfl)
      have HF8 := Aside0.mk (show Fr (fun k => k = g ∨ k = r) w w8 by rw [hw8]; exact HF6.out.setCell (p := ⟨r, 9, none⟩) (.inl (.inr rfl)) _)
      have HW8 := Aside0.mk hw8
      clear hw8 HX6 HF6 HI6
      go_upto_region 9 with (fail)
      rw [← HW8.out]
      clear q9 f9 HW8
      have HX8 := Aside0.mk hX8
      have e0 : w8.cell? ⟨w.heap.size, 0, none⟩ = some (.int .i64 n1) := (blk_cell HX8.out 0).trans rfl
      have e1 : w8.cell? ⟨w.heap.size, 1, none⟩ = some (.int .u64 n2) := (blk_cell HX8.out 1).trans rfl
      have e2 : w8.cell? ⟨w.heap.size, 2, none⟩ = some (.bool false) := (blk_cell HX8.out 2).trans rfl
      have e3 : w8.cell? ⟨w.heap.size, 3, none⟩ = some (.slice none 0 0) := (blk_cell HX8.out 3).trans rfl
      have f0 : w8.frozen? ⟨w.heap.size, 0, none⟩ = false := blk_frozen HX8.out 0
      have f1 : w8.frozen? ⟨w.heap.size, 1, none⟩ = false := blk_frozen HX8.out 1
      have f2 : w8.frozen? ⟨w.heap.size, 2, none⟩ = false := blk_frozen HX8.out 2
      have f3 : w8.frozen? ⟨w.heap.size, 3, none⟩ = false := blk_frozen HX8.out 3
      clear hX8
      go_wp2_with fail
      obtain ⟨w9, hw9⟩ : ∃ w9, w9 = ((((w8.setCell ⟨w.heap.size, 0, none⟩ (.int .i64 n1)).setCell ⟨w.heap.size, 1, none⟩ (.int .u64 n2)).setCell ⟨w.heap.size, 2, none⟩ (.bool false)).setCell ⟨w.heap.size, 3, none⟩ (.slice none 0 0)) := ⟨_, rfl⟩
      rw [← hw9]
      obtain ⟨hX9, hf9⟩ := box4 HX8.out hw9
      have e0 : w9.cell? ⟨w.heap.size, 0, none⟩ = some (.int .i64 n1) := (blk_cell hX9 0).trans rfl
      have e1 : w9.cell? ⟨w.heap.size, 1, none⟩ = some (.int .u64 n2) := (blk_cell hX9 1).trans rfl
      have e2 : w9.cell? ⟨w.heap.size, 2, none⟩ = some (.bool false) := (blk_cell hX9 2).trans rfl
      have e3 : w9.cell? ⟨w.heap.size, 3, none⟩ = some (.slice none 0 0) := (blk_cell hX9 3).trans rfl
      refine bodyPost_ret (by simp [results, Try.results116, go_sem, e0, e1, e2, e3]; try rfl) rfl ?_
      exact ⟨_, rfl, Kd.R_nil _ _ _ _ _, HI8.out.frB hf9 HRB.out HNB.out HSZ.out, HF8.out.low (hf9.toBelow HF8.out.size (fun k hk => by omega))⟩
end

section
open Go.Shelf Go.RowKit Go.Proofs.YtngjaaldidmgjaaW.PrintWords Go.Proofs.YtngjaaldidmgjaaW.PrintLast Go.Proofs.YtngjaaldidmgjaaW.PrintMore
set_option linter.unusedVariables false
set_option linter.unusedSimpArgs false

/-- What many takes. -/
def sMany {α : Type} (f : RS → α × RS) : Nat → RS → List α × RS
  | 0, t => ([], t)
  | n + 1, t => if t.ok = true then ((f t).1 :: (sMany f n (f t).2).1, (sMany f n (f t).2).2) else ([], t)
theorem sMany_step {α : Type} {f : RS → α × RS} {n k : Nat} {t u : RS} {xs : List α} {fin : List α × RS} (h : fin = (xs ++ (sMany f (n - k) u).1, (sMany f (n - k) u).2)) (hk : k < n) (ho : u.ok = true) :
    fin = (xs ++ [(f u).1] ++ (sMany f (n - (k + 1)) (f u).2).1, (sMany f (n - (k + 1)) (f u).2).2) := by
  rw [h, show n - k = (n - (k + 1)) + 1 by omega, sMany, if_pos ho]
  simp
theorem sMany_stop {α : Type} {f : RS → α × RS} {n k : Nat} {u : RS} {xs : List α} {fin : List α × RS} (h : fin = (xs ++ (sMany f (n - k) u).1, (sMany f (n - k) u).2)) (hk : n ≤ k ∨ u.ok = false) : fin = (xs, u) := by
  rw [h]
  cases hm : n - k with
  | zero => simp [sMany]
  | succ m =>
    rw [sMany, if_neg (by rcases hk with hk | hk; omega; rw [hk]; decide)]
    simp
theorem Below.less {B C : Nat} {w w1 : World} (h : Below B w w1) (hc : C ≤ B) : Below C w w1 := ⟨h.os, h.tape, h.output, h.size, fun k hk => h.block k (Nat.lt_of_lt_of_le hk hc)⟩
theorem IsRr.low {w0 w1 w2 : World} {ok : Nat → Prop} {r g : Nat} {q : C7} {A : Option Addr} {c : Nat} {bs : List Int} {pl : Nat} {sb rb : Bool} {N : Nat} (h : IsRr w0 w1 ok r g q A c bs pl sb rb) (hb : Below N w1 w2) (hr : r < N) (hok : ∀ k, ok k → k < N) (hN : w0.heap.size ≤ N) : IsRr w0 w2 ok r g q A c bs pl sb rb :=
  ⟨(hb.block r hr).trans h.1, h.2.1, h.2.2.1, h.2.2.2.1, h.scan.step (fun k hk _ => hb.block k (hok k hk)), h.base.trans (Below.less hb hN), fun k hk => Nat.lt_of_lt_of_le (h.2.2.2.2.2.2 k hk) hb.size⟩

set_option maxHeartbeats 4000000 in
set_option maxRecDepth 100000 in
theorem rManyV (w0 w : World) (ok : Nat → Prop) (r g : Nat) (q : C7) (A : Option Addr) (c : Nat) (bs : List Int) (t : RS) (hI : IsRr w0 w ok r g q A c bs t.p t.s t.b) (hr : Kd.C (Kd.int .u8) w0 A bs.length bs) (hc : bs.length ≤ c) (hl : bs.length < 140737488355328) :
    Calls Try.prog 117 #[.pointer (some ⟨r, 0, none⟩), .func (.func 118) #[.pointer (some ⟨r, 0, none⟩)] #[]] w fun e w' => ∃ v, e = .returned v ∧ Kd.N kV 40 w' w.heap.size (fun k => w.heap.size ≤ k) v (sMany (sVec bs) (sVal bs 1 t).toNat (sNum bs 1 t)).1 ∧
      IsRr w0 w' ok r g q A c bs (sMany (sVec bs) (sVal bs 1 t).toNat (sNum bs 1 t)).2.p (sMany (sVec bs) (sVal bs 1 t).toNat (sNum bs 1 t)).2.s (sMany (sVec bs) (sVal bs 1 t).toNat (sNum bs 1 t)).2.b ∧ Fr (fun k => k = g ∨ k = r) w w' := by
  obtain ⟨q0, q1, q9⟩ := hI.cells
  have hn1 := scTake_range bs t.p t.s 1 hI.scan.bytes
  rw [show (256 : Int) ^ (1 : Int).toNat = 256 by decide, show num (scTake bs t.p t.s 1) = sVal bs 1 t from rfl] at hn1
  have HN1 := Aside0.mk (ScNum _ ok g bs t.p t.s 1 w hI.scan)
  rw [show sizeOr 1 = 1 from rfl, show num (scTake bs t.p t.s 1) = sVal bs 1 t from rfl, show scPl bs.length t.p t.s 1 = (sNum bs 1 t).p from rfl, show scBad bs.length t.p t.s 1 = (sNum bs 1 t).s from rfl] at HN1
  have HI := Aside0.mk (show IsRr w0 w ok r g q A c bs t.p t.s (sNum bs 1 t).b from hI)
  generalize sNum bs 1 t = t1 at *
  generalize sVal bs 1 t = nz at *
  obtain ⟨hna, hnb⟩ := hn1
  obtain ⟨n, rfl⟩ : ∃ n : Nat, nz = (n : Int) := ⟨nz.toNat, by omega⟩
  rw [Int.toNat_natCast]
  have HN256 := Aside0.mk (show n < 256 by omega)
  obtain ⟨fin, hfin⟩ : ∃ fin, fin = sMany (sVec bs) n t1 := ⟨_, rfl⟩
  rw [← hfin]
  have HFIN := Aside0.mk hfin
  have HOKW := Aside0.mk hI.2.2.2.2.2.2
  have HRW := Aside0.mk (blk_lt hI.1)
  have HGW := Aside0.mk hI.scan.lt
  have HSZ := Aside0.mk (below_size hI.base)
  have HR := Aside0.mk hr
  have eg : ∀ args w, (callFunc 118 args).run Try.prog w = .ok (.enter 118 args) w := enters_of Try.func118 (by kernel_rfl) rfl
  clear hI hr hfin
  go_enter Try.func117, Try.ntmps117
  go_wp2_with fail
  refine HN1.out.mono ?_
  rintro e w1 ⟨rfl, hi, hf⟩
  have HI1 := Aside0.mk (HI.out.fr hf hi)
  have HF1 := Aside0.mk (hf.mono (S' := fun k => k = g ∨ k = r) (fun k h => .inl h))
  clear q0 q1 q9 hi hf HI HN1
  go_wp2_with fail
  go_loopg [5, 7] n (fun gg v5 s7 wr => ∃ (kk : Nat) (xs : List (List Int)) (tk : RS), kk ≤ n ∧ n - kk ≤ gg ∧ s7 = .int .i64 kk ∧ Aside0 (xs.length ≤ kk) ∧ Aside0 (fin = (xs ++ (sMany (sVec bs) (n - kk) tk).1, (sMany (sVec bs) (n - kk) tk).2)) ∧ Aside0 (Kd.N kV 40 wr w.heap.size (fun k => w.heap.size ≤ k) v5 xs) ∧ Aside0 (IsRr w0 wr ok r g q A c bs tk.p tk.s tk.b) ∧ Aside0 (Fr (fun k => k = g ∨ k = r) w wr))
  case atStart => exact ⟨0, [], t1, by omega, by omega, rfl, ⟨Nat.zero_le _⟩, ⟨by rw [HFIN.out]; simp⟩, ⟨Kd.N_nil _ _ _ _ _⟩, HI1, HF1⟩
  case round =>
    obtain ⟨kk, xs, tk, hkk, hg, rfl, HXL, HFK, HOk, HIk, HFr⟩ := hrel
    obtain ⟨wo, rfl⟩ : ∃ wo, wo = wr := ⟨_, rfl⟩
    by_cases hlt : kk < n
    · have hltz : (kk : Int) < (n : Int) := by omega
      have HOKC := Aside0.mk (rOk w0 wo ok r g q A c bs tk.p tk.s tk.b HIk.out)
      cases hok : tk.ok with
      | true =>
        rw [show (!tk.b && !tk.s) = true from hok] at HOKC
        have HV := Aside0.mk (fun W h => rVec w0 W ok r g q A c bs tk h HR.out hc hl)
        have HFN := Aside0.mk (sMany_step (t := tk) HFK.out hlt hok)
        generalize sVec bs tk = rv at *
        obtain ⟨x, t4⟩ := rv
        simp only at HV HFN
        have hx3 := HXL.out
        have hn256 := HN256.out
        clear hok HFK
        go_wp2_with (first
          | (go_at_call 81; refine HOKC.out.mono ?_; rintro e w2 ⟨rfl, hd⟩; have HI2 := Aside0.mk (HIk.out.below hd.below); have HF2 := Aside0.mk (HFr.out.below hd.below); have HO2 := Aside0.mk (Kd.N_below HOk.out hd.below); clear hd)
          | (go_at_fn 118; refine (HV.out _ HI2.out).mono ?_; rintro e w3 ⟨v, rfl, ho, hi, hf⟩; have HI3 := Aside0.mk hi; have HF3 := Aside0.mk (HF2.out.trans hf); have HO3 := Aside0.mk (Kd.N_step HO2.out (fun k hk hlt => hf.block hlt (fun e => by have h1 := HRW.out; have h2 := HGW.out; rcases e with e | e <;> omega))); have HRO := Aside0.mk (Kd.R_bound ho); have HLT := Aside0.mk (Kd.N_lt HO2.out); have HS2 := Aside0.mk HF2.out.size; obtain ⟨A3, c3, hv3⟩ := Kd.R_slice ho; subst hv3; clear ho hi hf)
          | ((with_reducible refine gate_builtin (b := .append) (xs := #[.tmp 23, .tmp 26]) rfl ?_); at_builtin; refine Kd.N_append kV (w0 := w3) w.heap.size rfl (.tmp 23) (.tmp 26) 26 40 (.slice none 0 0) 24 rfl Try.underlying26 P.info40 rfl (by decide) (by omega) u5 xs x [.slice A3 x.length c3] (fun k => w.heap.size ≤ k) _ rfl rfl (Kd.FK_of_M (Kd.M_row HRO.out)) (fun k hk => ⟨by have h1 := hk.2.1; have h2 := HS2.out; omega, fun e => by have h1 := hk.2.1; have h2 := HLT.out k e.symm; omega⟩) (fun k hk => by have h2 := HF3.out.size; omega) HO3.out (Below.refl _ _) HF3.out.size (by omega) ?_; intro v6 w6 ho hb hg6 hat; clear hg6 hat; have HO6 := Aside0.mk ho; have HI6 := Aside0.mk (HI3.out.low hb HRW.out HOKW.out HSZ.out); have HF6 := Aside0.mk (HF3.out.low hb); clear ho hb))
        go_roundg (n - (kk + 1))
        case measure => omega
        case rel => exact ⟨kk + 1, xs ++ [x], t4, by omega, by omega, by go_num, ⟨by rw [List.length_append]; simpa using hx3⟩, HFN, HO6, HI6, HF6⟩
      | false =>
        rw [show (!tk.b && !tk.s) = false from hok] at HOKC
        have h := sMany_stop HFK.out (.inr hok)
        clear hok HFK HFIN
        go_wp2_with (go_at_call 81; refine HOKC.out.mono ?_; rintro e w2 ⟨rfl, hd⟩; have HI2 := Aside0.mk (HIk.out.below hd.below); have HF2 := Aside0.mk (HFr.out.below hd.below); have HO2 := Aside0.mk (Kd.N_below HOk.out hd.below); clear hd)
        go_returns
        subst h
        exact ⟨_, rfl, HO2.out, HI2.out, HF2.out⟩
    · have hltz : ¬ (kk : Int) < (n : Int) := by omega
      have h := sMany_stop HFK.out (.inl (by omega))
      clear HFK HFIN
      go_wp2_with fail
      go_returns
      subst h
      exact ⟨_, rfl, HOk.out, HIk.out, HFr.out⟩

set_option maxHeartbeats 4000000 in
set_option maxRecDepth 100000 in
theorem rManyW (w0 w : World) (ok : Nat → Prop) (r g : Nat) (q : C7) (A : Option Addr) (c : Nat) (bs : List Int) (t : RS) (hI : IsRr w0 w ok r g q A c bs t.p t.s t.b) (hr : Kd.C (Kd.int .u8) w0 A bs.length bs) (hc : bs.length ≤ c) (hl : bs.length < 140737488355328) :
    Calls Try.prog 115 #[.pointer (some ⟨r, 0, none⟩), .func (.func 116) #[.pointer (some ⟨r, 0, none⟩)] #[]] w fun e w' => ∃ v, e = .returned v ∧ Kd.N kW 87 w' w.heap.size (fun k => w.heap.size ≤ k) v (sMany (sWrite bs) (sVal bs 1 t).toNat (sNum bs 1 t)).1 ∧
      IsRr w0 w' ok r g q A c bs (sMany (sWrite bs) (sVal bs 1 t).toNat (sNum bs 1 t)).2.p (sMany (sWrite bs) (sVal bs 1 t).toNat (sNum bs 1 t)).2.s (sMany (sWrite bs) (sVal bs 1 t).toNat (sNum bs 1 t)).2.b ∧ Fr (fun k => k = g ∨ k = r) w w' := by
  obtain ⟨q0, q1, q9⟩ := hI.cells
  have hn1 := scTake_range bs t.p t.s 1 hI.scan.bytes
  rw [show (256 : Int) ^ (1 : Int).toNat = 256 by decide, show num (scTake bs t.p t.s 1) = sVal bs 1 t from rfl] at hn1
  have HN1 := Aside0.mk (ScNum _ ok g bs t.p t.s 1 w hI.scan)
  rw [show sizeOr 1 = 1 from rfl, show num (scTake bs t.p t.s 1) = sVal bs 1 t from rfl, show scPl bs.length t.p t.s 1 = (sNum bs 1 t).p from rfl, show scBad bs.length t.p t.s 1 = (sNum bs 1 t).s from rfl] at HN1
  have HI := Aside0.mk (show IsRr w0 w ok r g q A c bs t.p t.s (sNum bs 1 t).b from hI)
  generalize sNum bs 1 t = t1 at *
  generalize sVal bs 1 t = nz at *
  obtain ⟨hna, hnb⟩ := hn1
  obtain ⟨n, rfl⟩ : ∃ n : Nat, nz = (n : Int) := ⟨nz.toNat, by omega⟩
  rw [Int.toNat_natCast]
  have HN256 := Aside0.mk (show n < 256 by omega)
  obtain ⟨fin, hfin⟩ : ∃ fin, fin = sMany (sWrite bs) n t1 := ⟨_, rfl⟩
  rw [← hfin]
  have HFIN := Aside0.mk hfin
  have HOKW := Aside0.mk hI.2.2.2.2.2.2
  have HRW := Aside0.mk (blk_lt hI.1)
  have HGW := Aside0.mk hI.scan.lt
  have HSZ := Aside0.mk (below_size hI.base)
  have HR := Aside0.mk hr
  have eg : ∀ args w, (callFunc 116 args).run Try.prog w = .ok (.enter 116 args) w := enters_of Try.func116 (by kernel_rfl) rfl
  clear hI hr hfin
  go_enter Try.func115, Try.ntmps115
  go_wp2_with fail
  refine HN1.out.mono ?_
  rintro e w1 ⟨rfl, hi, hf⟩
  have HI1 := Aside0.mk (HI.out.fr hf hi)
  have HF1 := Aside0.mk (hf.mono (S' := fun k => k = g ∨ k = r) (fun k h => .inl h))
  clear q0 q1 q9 hi hf HI HN1
  go_wp2_with fail
  go_loopg [5, 7] n (fun gg v5 s7 wr => ∃ (kk : Nat) (xs : List Wr) (tk : RS), kk ≤ n ∧ n - kk ≤ gg ∧ s7 = .int .i64 kk ∧ Aside0 (xs.length ≤ kk) ∧ Aside0 (fin = (xs ++ (sMany (sWrite bs) (n - kk) tk).1, (sMany (sWrite bs) (n - kk) tk).2)) ∧ Aside0 (Kd.N kW 87 wr w.heap.size (fun k => w.heap.size ≤ k) v5 xs) ∧ Aside0 (IsRr w0 wr ok r g q A c bs tk.p tk.s tk.b) ∧ Aside0 (Fr (fun k => k = g ∨ k = r) w wr))
  case atStart => exact ⟨0, [], t1, by omega, by omega, rfl, ⟨Nat.zero_le _⟩, ⟨by rw [HFIN.out]; simp⟩, ⟨Kd.N_nil _ _ _ _ _⟩, HI1, HF1⟩
  case round =>
    obtain ⟨kk, xs, tk, hkk, hg, rfl, HXL, HFK, HOk, HIk, HFr⟩ := hrel
    obtain ⟨wo, rfl⟩ : ∃ wo, wo = wr := ⟨_, rfl⟩
    by_cases hlt : kk < n
    · have hltz : (kk : Int) < (n : Int) := by omega
      have HOKC := Aside0.mk (rOk w0 wo ok r g q A c bs tk.p tk.s tk.b HIk.out)
      cases hok : tk.ok with
      | true =>
        rw [show (!tk.b && !tk.s) = true from hok] at HOKC
        have HV := Aside0.mk (fun W h => rWrite w0 W ok r g q A c bs tk h HR.out hc hl)
        have HFN := Aside0.mk (sMany_step (t := tk) HFK.out hlt hok)
        generalize sWrite bs tk = rv at *
        obtain ⟨x, t4⟩ := rv
        simp only at HV HFN
        have hx3 := HXL.out
        have hn256 := HN256.out
        clear hok HFK
        go_wp2_with (first
          | (go_at_call 81; refine HOKC.out.mono ?_; rintro e w2 ⟨rfl, hd⟩; have HI2 := Aside0.mk (HIk.out.below hd.below); have HF2 := Aside0.mk (HFr.out.below hd.below); have HO2 := Aside0.mk (Kd.N_below HOk.out hd.below); clear hd)
          | (go_at_fn 116; refine (HV.out _ HI2.out).mono ?_; rintro e w3 ⟨v, rfl, ho, hi, hf⟩; have HI3 := Aside0.mk hi; have HF3 := Aside0.mk (HF2.out.trans hf); have HO3 := Aside0.mk (Kd.N_step HO2.out (fun k hk hlt => hf.block hlt (fun e => by have h1 := HRW.out; have h2 := HGW.out; rcases e with e | e <;> omega))); have HRO := Aside0.mk (Kd.R_bound ho); have HLT := Aside0.mk (Kd.N_lt HO2.out); have HS2 := Aside0.mk HF2.out.size; obtain ⟨A3, c3, hv3⟩ := Kd.R_slice ho; subst hv3; clear ho hi hf)
          | ((with_reducible refine gate_builtin (b := .append) (xs := #[.tmp 23, .tmp 26]) rfl ?_); at_builtin; refine Kd.N_append kW (w0 := w3) w.heap.size rfl (.tmp 23) (.tmp 26) 25 87 (.agg #[.int .i64 0, .int .u64 0, .bool false, .slice none 0 0]) 48 rfl Try.underlying25 P.info87 rfl (by decide) (by omega) u5 xs x [.int .i64 x.f0, .int .u64 x.f1, .bool x.f2, .slice A3 x.f3.length c3] (fun k => w.heap.size ≤ k) _ rfl rfl (Kd.FK_of_M (P.k87_mkM _ _ _ x HRO.out)) (fun k hk => ⟨by have h1 := hk.2.1; have h2 := HS2.out; omega, fun e => by have h1 := hk.2.1; have h2 := HLT.out k e.symm; omega⟩) (fun k hk => by have h2 := HF3.out.size; omega) HO3.out (Below.refl _ _) HF3.out.size (by omega) ?_; intro v6 w6 ho hb hg6 hat; clear hg6 hat; have HO6 := Aside0.mk ho; have HI6 := Aside0.mk (HI3.out.low hb HRW.out HOKW.out HSZ.out); have HF6 := Aside0.mk (HF3.out.low hb); clear ho hb))
        go_roundg (n - (kk + 1))
        case measure => omega
        case rel => exact ⟨kk + 1, xs ++ [x], t4, by omega, by omega, by go_num, ⟨by rw [List.length_append]; simpa using hx3⟩, HFN, HO6, HI6, HF6⟩
      | false =>
        rw [show (!tk.b && !tk.s) = false from hok] at HOKC
        have h := sMany_stop HFK.out (.inr hok)
        clear hok HFK HFIN
        go_wp2_with (go_at_call 81; refine HOKC.out.mono ?_; rintro e w2 ⟨rfl, hd⟩; have HI2 := Aside0.mk (HIk.out.below hd.below); have HF2 := Aside0.mk (HFr.out.below hd.below); have HO2 := Aside0.mk (Kd.N_below HOk.out hd.below); clear hd)
        go_returns
        subst h
        exact ⟨_, rfl, HO2.out, HI2.out, HF2.out⟩
    · have hltz : ¬ (kk : Int) < (n : Int) := by omega
      have h := sMany_stop HFK.out (.inl (by omega))
      clear HFK HFIN
      go_wp2_with fail
      go_returns
      subst h
      exact ⟨_, rfl, HOk.out, HIk.out, HFr.out⟩
end

section
open Go.Shelf Go.RowKit Go.Proofs.YtngjaaldidmgjaaW.PrintWords Go.Proofs.YtngjaaldidmgjaaW.PrintLast Go.Proofs.YtngjaaldidmgjaaW.PrintMore
set_option linter.unusedVariables false
set_option linter.unusedSimpArgs false

/-- What commit takes; what train takes. -/
def sCommit (bs : List Int) (t : RS) : Int × List Wr × RS :=
  (sVal bs 8 t, (sMany (sWrite bs) (sVal bs 1 (sNum bs 8 t)).toNat (sNum bs 1 (sNum bs 8 t))).1, (sMany (sWrite bs) (sVal bs 1 (sNum bs 8 t)).toNat (sNum bs 1 (sNum bs 8 t))).2)
def sTrain (bs : List Int) (t : RS) : Int × List (List Int) × RS :=
  (sVal bs 1 t, (sMany (sVec bs) (sVal bs 1 (sNum bs 1 t)).toNat (sNum bs 1 (sNum bs 1 t))).1, (sMany (sVec bs) (sVal bs 1 (sNum bs 1 t)).toNat (sNum bs 1 (sNum bs 1 t))).2)
def rcZ (k : Int) : C7 := rcC k 0 0 0 0 none 0 0 none 0 0

set_option maxHeartbeats 4000000 in
set_option maxRecDepth 100000 in
theorem rCommit (k : Int) (w0 w : World) (ok : Nat → Prop) (r g : Nat) (A : Option Addr) (c : Nat) (bs : List Int) (t : RS) (hI : IsRr w0 w ok r g (rcZ k) A c bs t.p t.s t.b) (hr : Kd.C (Kd.int .u8) w0 A bs.length bs) (hc : bs.length ≤ c) (hl : bs.length < 140737488355328) :
    Calls Try.prog 76 #[.pointer (some ⟨r, 0, none⟩)] w fun e w' => ∃ A5 c5, e = .returned (.tuple #[]) ∧ Kd.N kW 87 w' w.heap.size (fun k => w.heap.size ≤ k) (.slice A5 (sCommit bs t).2.1.length c5) (sCommit bs t).2.1 ∧
      IsRr w0 w' ok r g (rcC k (sCommit bs t).1 0 0 0 A5 (sCommit bs t).2.1.length c5 none 0 0) A c bs (sCommit bs t).2.2.p (sCommit bs t).2.2.s (sCommit bs t).2.2.b ∧ Fr (fun k => k = g ∨ k = r) w w' := by
  obtain ⟨q0, q1, q9⟩ := hI.cells
  have HN1 := Aside0.mk (ScNum _ ok g bs t.p t.s 8 w hI.scan)
  rw [show sizeOr 8 = 8 from rfl, show num (scTake bs t.p t.s 8) = sVal bs 8 t from rfl, show scPl bs.length t.p t.s 8 = (sNum bs 8 t).p from rfl, show scBad bs.length t.p t.s 8 = (sNum bs 8 t).s from rfl] at HN1
  have HI := Aside0.mk (show IsRr w0 w ok r g (rcC k 0 0 0 0 none 0 0 none 0 0) A c bs t.p t.s (sNum bs 8 t).b from hI)
  have HM := Aside0.mk (fun q W h => rManyW w0 W ok r g q A c bs (sNum bs 8 t) h hr hc hl)
  have HRW := Aside0.mk (blk_lt hI.1)
  clear hI hr
  unfold sCommit
  generalize sVal bs 8 t = n1 at *
  generalize sNum bs 8 t = t1 at *
  generalize sMany (sWrite bs) (sVal bs 1 t1).toNat (sNum bs 1 t1) = fin at *
  obtain ⟨xs, t2⟩ := fin
  simp only at HM ⊢
  go_enter Try.func76, Try.ntmps76
  go_wp2_with (first
    | (go_at_call 61; refine HN1.out.mono ?_; rintro e w1 ⟨rfl, hi, hf⟩; have h1 := HI.out.fr hf hi; have f3 : w1.frozen? ⟨r, 3, none⟩ = false := blk_frozen h1.1 3; have q3 : w1.cell? ⟨r, 3, none⟩ = some (.int .u64 0) := (blk_cell h1.1 3).trans rfl; have H1 := Aside0.mk (h1.set 3 (.int .u64 n1) (rcC k n1 0 0 0 none 0 0 none 0 0) _ rfl); have HF := Aside0.mk ((hf.mono (S' := fun k => k = g ∨ k = r) (fun k h => .inl h)).setCell (p := ⟨r, 3, none⟩) (.inl (.inr rfl)) (.int .u64 n1)); clear hi hf h1)
    | (go_at_call 115; refine (HM.out _ _ H1.out).mono ?_; rintro e w2 ⟨v, rfl, hn, hi, hf⟩; obtain ⟨A5, c5, hv⟩ := Kd.N_slice hn; subst hv; have f7 : w2.frozen? ⟨r, 7, none⟩ = false := blk_frozen hi.1 7; have q7 : w2.cell? ⟨r, 7, none⟩ = some (.slice none 0 0) := (blk_cell hi.1 7).trans rfl; have HI2 := Aside0.mk (hi.set 7 (.slice A5 xs.length c5) (rcC k n1 0 0 0 A5 xs.length c5 none 0 0) _ rfl); have hfa := HF.out.trans hf; have HF2 := Aside0.mk (hfa.setCell (p := ⟨r, 7, none⟩) (.inl (.inr rfl)) (.slice A5 xs.length c5)); have HNN := Aside0.mk hn; have HFS := Aside0.mk HF.out.size; clear hn hi hf hfa))
  go_returns
  exact ⟨A5, c5, rfl, Kd.N_far (p := ⟨r, 7, none⟩) (Kd.N_mono (Kd.N_lower HNN.out HFS.out) (fun k hk => Nat.le_trans HFS.out hk)) (fun k hk e => by have h1 := HRW.out; simp only at e; omega) _, HI2.out, HF2.out⟩

set_option maxHeartbeats 4000000 in
set_option maxRecDepth 100000 in
theorem rTrain (k : Int) (w0 w : World) (ok : Nat → Prop) (r g : Nat) (A : Option Addr) (c : Nat) (bs : List Int) (t : RS) (hI : IsRr w0 w ok r g (rcZ k) A c bs t.p t.s t.b) (hr : Kd.C (Kd.int .u8) w0 A bs.length bs) (hc : bs.length ≤ c) (hl : bs.length < 140737488355328) :
    Calls Try.prog 79 #[.pointer (some ⟨r, 0, none⟩)] w fun e w' => ∃ A6 c6, e = .returned (.tuple #[]) ∧ Kd.N kV 40 w' w.heap.size (fun k => w.heap.size ≤ k) (.slice A6 (sTrain bs t).2.1.length c6) (sTrain bs t).2.1 ∧
      IsRr w0 w' ok r g (rcC k 0 0 (sTrain bs t).1 0 none 0 0 A6 (sTrain bs t).2.1.length c6) A c bs (sTrain bs t).2.2.p (sTrain bs t).2.2.s (sTrain bs t).2.2.b ∧ Fr (fun k => k = g ∨ k = r) w w' := by
  obtain ⟨q0, q1, q9⟩ := hI.cells
  have hn1 := scTake_range bs t.p t.s 1 hI.scan.bytes
  rw [show (256 : Int) ^ (1 : Int).toNat = 256 by decide, show num (scTake bs t.p t.s 1) = sVal bs 1 t from rfl] at hn1
  obtain ⟨hna, hnb⟩ := hn1
  have HN1 := Aside0.mk (ScNum _ ok g bs t.p t.s 1 w hI.scan)
  rw [show sizeOr 1 = 1 from rfl, show num (scTake bs t.p t.s 1) = sVal bs 1 t from rfl, show scPl bs.length t.p t.s 1 = (sNum bs 1 t).p from rfl, show scBad bs.length t.p t.s 1 = (sNum bs 1 t).s from rfl] at HN1
  have HI := Aside0.mk (show IsRr w0 w ok r g (rcC k 0 0 0 0 none 0 0 none 0 0) A c bs t.p t.s (sNum bs 1 t).b from hI)
  have HM := Aside0.mk (fun q W h => rManyV w0 W ok r g q A c bs (sNum bs 1 t) h hr hc hl)
  have HRW := Aside0.mk (blk_lt hI.1)
  clear hI hr
  unfold sTrain
  generalize sVal bs 1 t = n1 at *
  generalize sNum bs 1 t = t1 at *
  generalize sMany (sVec bs) (sVal bs 1 t1).toNat (sNum bs 1 t1) = fin at *
  obtain ⟨xs, t2⟩ := fin
  simp only at HM ⊢
  go_enter Try.func79, Try.ntmps79
  go_wp2_with (first
    | (go_at_call 61; refine HN1.out.mono ?_; rintro e w1 ⟨rfl, hi, hf⟩; have h1 := HI.out.fr hf hi; have f3 : w1.frozen? ⟨r, 5, none⟩ = false := blk_frozen h1.1 5; have q3 : w1.cell? ⟨r, 5, none⟩ = some (.int .i64 0) := (blk_cell h1.1 5).trans rfl; have H1 := Aside0.mk (h1.set 5 (.int .i64 n1) (rcC k 0 0 n1 0 none 0 0 none 0 0) _ rfl); have HF := Aside0.mk ((hf.mono (S' := fun k => k = g ∨ k = r) (fun k h => .inl h)).setCell (p := ⟨r, 5, none⟩) (.inl (.inr rfl)) (.int .i64 n1)); clear hi hf h1)
    | (go_at_call 117; refine (HM.out _ _ H1.out).mono ?_; rintro e w2 ⟨v, rfl, hn, hi, hf⟩; obtain ⟨A5, c5, hv⟩ := Kd.N_slice hn; subst hv; have f7 : w2.frozen? ⟨r, 8, none⟩ = false := blk_frozen hi.1 8; have q7 : w2.cell? ⟨r, 8, none⟩ = some (.slice none 0 0) := (blk_cell hi.1 8).trans rfl; have HI2 := Aside0.mk (hi.set 8 (.slice A5 xs.length c5) (rcC k 0 0 n1 0 none 0 0 A5 xs.length c5) _ rfl); have hfa := HF.out.trans hf; have HF2 := Aside0.mk (hfa.setCell (p := ⟨r, 8, none⟩) (.inl (.inr rfl)) (.slice A5 xs.length c5)); have HNN := Aside0.mk hn; have HFS := Aside0.mk HF.out.size; clear hn hi hf hfa))
  go_returns
  exact ⟨A5, c5, rfl, Kd.N_far (p := ⟨r, 8, none⟩) (Kd.N_mono (Kd.N_lower HNN.out HFS.out) (fun k hk => Nat.le_trans HFS.out hk)) (fun k hk e => by have h1 := HRW.out; simp only at e; omega) _, HI2.out, HF2.out⟩

set_option maxHeartbeats 4000000 in
set_option maxRecDepth 100000 in
theorem rCreate (k : Int) (w0 w : World) (ok : Nat → Prop) (r g : Nat) (A : Option Addr) (c : Nat) (bs : List Int) (t : RS) (hI : IsRr w0 w ok r g (rcZ k) A c bs t.p t.s t.b) :
    Calls Try.prog 77 #[.pointer (some ⟨r, 0, none⟩)] w fun e w' => e = .returned (.tuple #[]) ∧
      IsRr w0 w' ok r g (rcC k 0 0 (sVal bs 1 t) (sVal bs 1 (sNum bs 1 t)) none 0 0 none 0 0) A c bs (sNum bs 1 (sNum bs 1 t)).p (sNum bs 1 (sNum bs 1 t)).s (sNum bs 1 (sNum bs 1 t)).b ∧ Fr (fun k => k = g ∨ k = r) w w' := by
  obtain ⟨q0, q1, q9⟩ := hI.cells
  have hby := hI.scan.bytes
  have hn1 := scTake_range bs t.p t.s 1 hby
  rw [show (256 : Int) ^ (1 : Int).toNat = 256 by decide, show num (scTake bs t.p t.s 1) = sVal bs 1 t from rfl] at hn1
  obtain ⟨hna, hnb⟩ := hn1
  have hn2 := scTake_range bs (sNum bs 1 t).p (sNum bs 1 t).s 1 hby
  rw [show (256 : Int) ^ (1 : Int).toNat = 256 by decide, show num (scTake bs (sNum bs 1 t).p (sNum bs 1 t).s 1) = sVal bs 1 (sNum bs 1 t) from rfl] at hn2
  obtain ⟨hma, hmb⟩ := hn2
  have HN1 := Aside0.mk (fun m => ScNum _ ok g bs t.p t.s 1 (w.drewN m) (hI.scan.drewN m))
  rw [show sizeOr 1 = 1 from rfl, show num (scTake bs t.p t.s 1) = sVal bs 1 t from rfl, show scPl bs.length t.p t.s 1 = (sNum bs 1 t).p from rfl, show scBad bs.length t.p t.s 1 = (sNum bs 1 t).s from rfl] at HN1
  have HN2 := Aside0.mk (fun W h => ScNum w0.heap.size ok g bs (sNum bs 1 t).p (sNum bs 1 t).s 1 W h)
  rw [show sizeOr 1 = 1 from rfl, show num (scTake bs (sNum bs 1 t).p (sNum bs 1 t).s 1) = sVal bs 1 (sNum bs 1 t) from rfl, show scPl bs.length (sNum bs 1 t).p (sNum bs 1 t).s 1 = (sNum bs 1 (sNum bs 1 t)).p from rfl, show scBad bs.length (sNum bs 1 t).p (sNum bs 1 t).s 1 = (sNum bs 1 (sNum bs 1 t)).s from rfl] at HN2
  have HI := Aside0.mk (show IsRr w0 w ok r g (rcC k 0 0 0 0 none 0 0 none 0 0) A c bs t.p t.s (sNum bs 1 (sNum bs 1 t)).b from hI)
  clear hI hby
  generalize sVal bs 1 t = n1 at *
  generalize sVal bs 1 (sNum bs 1 t) = n2 at *
  generalize sNum bs 1 (sNum bs 1 t) = t2 at *
  generalize sNum bs 1 t = t1 at *
  go_enter Try.func77, Try.ntmps77
  have hw1 : IntKind.i64.wrap n1 = n1 := IntWalk.i64_in _ (by omega)
  have hw2 : IntKind.i64.wrap n2 = n2 := IntWalk.i64_in _ (by omega)
  go_wp2_with fail
  go_region_held3 (fun w' => w'.cell? ⟨r, 0, none⟩ = some (.pointer (some ⟨g, 0, none⟩))) (first | go_keep | (simp [*, World.cell?_setCell_other]; done))
    (first
      | (go_at_call 61; refine (HN2.out _ H1.out.scan).mono ?_; rintro e w2 ⟨rfl, hi, hf⟩; have h2 := H1.out.fr hf hi; have H2 := Aside0.mk h2; have HF2 := Aside0.mk (HF1.out.trans (hf.mono (S' := fun k => k = g ∨ k = r) (fun k h => .inl h))); have k2 : w2.cell? ⟨r, 0, none⟩ = some (.pointer (some ⟨g, 0, none⟩)) := (blk_cell h2.1 0).trans rfl; have f5 : w2.frozen? ⟨r, 5, none⟩ = false := blk_frozen h2.1 5; have q5 : w2.cell? ⟨r, 5, none⟩ = some (.int .i64 0) := (blk_cell h2.1 5).trans rfl; have f6 : w2.frozen? ⟨r, 6, none⟩ = false := blk_frozen h2.1 6; have q6 : w2.cell? ⟨r, 6, none⟩ = some (.int .i64 0) := (blk_cell h2.1 6).trans rfl; clear hi hf h2)
      | (go_at_call 61; refine (HN1.out _).mono ?_; rintro e w1 ⟨rfl, hi, hf⟩; have h1 := (HI.out.below (pw_below_drewN (Below.refl _ _) _)).fr hf hi; have H1 := Aside0.mk h1; have HF1 := Aside0.mk (((Fr.refl (fun k => k = g ∨ k = r) w).drewN _).trans (hf.mono (S' := fun k => k = g ∨ k = r) (fun k h => .inl h))); have k1 : w1.cell? ⟨r, 0, none⟩ = some (.pointer (some ⟨g, 0, none⟩)) := (blk_cell h1.1 0).trans rfl; clear hi hf h1))
  have HF3 := Aside0.mk ((HF2.out.setCell (p := ⟨r, 5, none⟩) (.inl (.inr rfl)) (.int .i64 n1)).setCell (p := ⟨r, 6, none⟩) (.inl (.inr rfl)) (.int .i64 n2))
  have HI3 := Aside0.mk ((H2.out.set 5 (.int .i64 n1) (rcC k 0 0 n1 0 none 0 0 none 0 0) _ rfl).set 6 (.int .i64 n2) (rcC k 0 0 n1 n2 none 0 0 none 0 0) _ rfl)
  clear f5 q5 f6 q6 k1 k2
  go_wp2_with fail
  go_returns
  exact ⟨rfl, HI3.out, HF3.out⟩
end

end Go.Proofs.Ytngjaaldidmgjaa.G
