/- Contract of means.copied: rows in memory of their own; slices.Clone of rows. -/
import Derived.Test.YtbdoeikdoohagaaG6
import Derived.Lib.SliceRun
namespace Go.Proofs.Ytbdoeikdoohagaa.G
open Go.Shelf Go.RowKit Go.Proofs.YtbdoeikdoohagaaW.PrintWords Go.Proofs.YtbdoeikdoohagaaW.PrintLast Go.Proofs.YtbdoeikdoohagaaW.PrintMore
set_option linter.unusedVariables false
set_option linter.unusedSimpArgs false

/-- An element is of the one kind or of the other, as its mark says. -/
def two {α : Type} (a b : Kd α) (h : b.sz = a.sz) : Kd (α × Bool) where
  sz := a.sz
  E := a.E ++ b.E
  K := fun w x cs => if x.2 = true then b.K w x.1 cs else a.K w x.1 cs
  M := fun w base ok x cs => if x.2 = true then b.M w base ok x.1 cs else a.M w base ok x.1 cs
  K_len := fun {w x cs} hk => by
    split at hk
    · exact (b.K_len hk).trans h
    · exact a.K_len hk
  K_one := fun {w x cs} hk => by
    split at hk
    · exact b.K_one hk
    · exact a.K_one hk
  K_below := fun {w w1 x cs} hb hk => by
    by_cases e : x.2 = true
    · rw [if_pos e] at hk ⊢; exact b.K_below hb hk
    · rw [if_neg e] at hk ⊢; exact a.K_below hb hk
  K_of_M := fun {w base ok x cs} hk => by
    by_cases e : x.2 = true
    · rw [if_pos e] at hk ⊢; exact b.K_of_M hk
    · rw [if_neg e] at hk ⊢; exact a.K_of_M hk
  M_mono := fun {w base ok ok' x cs} hm hk => by
    by_cases e : x.2 = true
    · rw [if_pos e] at hk ⊢; exact b.M_mono hm hk
    · rw [if_neg e] at hk ⊢; exact a.M_mono hm hk
  M_bound := fun {w base ok x cs} hk => by
    by_cases e : x.2 = true
    · rw [if_pos e] at hk ⊢
      refine b.M_mono ?_ (b.M_bound hk)
      rintro k ⟨h2, h3, h4, q, hq, hc⟩
      exact ⟨h2, h3, h4, q, List.mem_append_right _ hq, hc⟩
    · rw [if_neg e] at hk ⊢
      refine a.M_mono ?_ (a.M_bound hk)
      rintro k ⟨h2, h3, h4, q, hq, hc⟩
      exact ⟨h2, h3, h4, q, List.mem_append_left _ hq, hc⟩
  M_move := fun {w w1 base ok x cs} hm hk => by
    by_cases e : x.2 = true
    · rw [if_pos e] at hk ⊢; exact b.M_move hm hk
    · rw [if_neg e] at hk ⊢; exact a.M_move hm hk
  M_lower := fun {w base base' ok x cs} hb hk => by
    by_cases e : x.2 = true
    · rw [if_pos e] at hk ⊢; exact b.M_lower hb hk
    · rw [if_neg e] at hk ⊢; exact a.M_lower hb hk
section
variable {α : Type} {a b : Kd α} {h : b.sz = a.sz} {w : World} {base : Nat} {ok : Nat → Prop} {x : α} {cs : List Value}
theorem two_t (hk : b.M w base ok x cs) : (two a b h).M w base ok (x, true) cs := by
  show (if (x, true).2 = true then b.M w base ok x cs else a.M w base ok x cs)
  rw [if_pos rfl]; exact hk
theorem two_f (hk : a.M w base ok x cs) : (two a b h).M w base ok (x, false) cs := by
  show (if (x, false).2 = true then b.M w base ok x cs else a.M w base ok x cs)
  rw [if_neg (by simp)]; exact hk
theorem two_t' (hk : (two a b h).M w base ok (x, true) cs) : b.M w base ok x cs := by
  have hk' : (if (x, true).2 = true then b.M w base ok x cs else a.M w base ok x cs) := hk
  rwa [if_pos rfl] at hk'
theorem two_f' (hk : (two a b h).M w base ok (x, false) cs) : a.M w base ok x cs := by
  have hk' : (if (x, false).2 = true then b.M w base ok x cs else a.M w base ok x cs) := hk
  rwa [if_neg (by simp)] at hk'
end
/-- A row of the one kind is one of the other, element by element. -/
theorem R_conv {α β : Type} {d : Kd α} {d' : Kd β} (hs : d.sz = d'.sz) {e base : Nat} {W : World} {ok : Nat → Prop} {v : Value} {xs : List α} {ys : List β} (hl : xs.length = ys.length)
    (hf : ∀ (j : Nat) x y ok cs, xs[j]? = some x → ys[j]? = some y → d.M W base ok x cs → d'.M W base ok y cs) (h : d.R e W base ok v xs) : d'.R e W base ok v ys := by
  obtain ⟨h0, inner, ho, hr⟩ := h
  refine ⟨h0, inner, by rw [← hs, ← hl]; exact ho, by rw [← hs, ← hl]; exact hr.1, fun j y hy => ?_⟩
  have hj : j < ys.length := (List.getElem?_eq_some_iff.1 hy).1
  have hx : xs[j]? = some (xs[j]'(by omega)) := List.getElem?_eq_getElem (by omega)
  have := hr.2 j _ hx
  rw [← hs]
  exact hf j _ y _ _ hx hy this

abbrev kT (w : World) : Kd (List Int × Bool) := two (Kd.fixed kR w) kR rfl
def tagged (l : List (List Int)) (k : Nat) : List (List Int × Bool) := l.zipIdx.map fun p => (p.1, decide (p.2 < k))
theorem tagged_len (l : List (List Int)) (k : Nat) : (tagged l k).length = l.length := by simp [tagged]
theorem tagged_get (l : List (List Int)) (k j : Nat) (x : List Int) (h : l[j]? = some x) : (tagged l k)[j]? = some (x, decide (j < k)) := by
  simp [tagged, List.getElem?_zipIdx, h]
theorem tagged_set (l : List (List Int)) (k : Nat) (hk : k < l.length) : (tagged l k).set k (l.getD k [], true) = tagged l (k + 1) := by
  refine List.ext_getElem? fun j => ?_
  rw [List.getElem?_set]
  by_cases e : k = j
  · subst e
    rw [if_pos rfl, if_pos (by rw [tagged_len]; exact hk), tagged_get l (k + 1) k (l.getD k []) (by rw [getD_of_lt l k [] hk]; exact List.getElem?_eq_getElem hk)]
    simp
  · rw [if_neg e]
    by_cases hj : j < l.length
    · have hg := List.getElem?_eq_getElem hj
      rw [tagged_get l k j _ hg, tagged_get l (k + 1) j _ hg]
      congr 2
      rw [decide_eq_decide]
      omega
    · rw [List.getElem?_eq_none (by rw [tagged_len]; omega), List.getElem?_eq_none (by rw [tagged_len]; omega)]
theorem tag_in {w W : World} {e base : Nat} {ok : Nat → Prop} {v : Value} {l : List (List Int)} (h : Kd.R (Kd.fixed kR w) e W base ok v l) : Kd.R (kT w) e W base ok v (tagged l 0) := by
  refine R_conv (d := Kd.fixed kR w) (d' := kT w) rfl (by rw [tagged_len]) (fun j x y ok cs hx hy hM => ?_) h
  rw [tagged_get l 0 j x hx] at hy
  obtain rfl := Option.some.inj hy
  rw [show decide (j < 0) = false by simp]
  exact two_f hM
theorem tag_out {w W : World} {e base : Nat} {ok : Nat → Prop} {v : Value} {l : List (List Int)} (h : Kd.R (kT w) e W base ok v (tagged l l.length)) : Kd.R kR e W base ok v l := by
  refine R_conv (d := kT w) (d' := kR) rfl (by rw [tagged_len]) (fun j x y ok cs hx hy hM => ?_) h
  rw [tagged_get l l.length j y hy] at hx
  obtain rfl := Option.some.inj hx
  have hj : j < l.length := (List.getElem?_eq_some_iff.1 hy).1
  rw [decide_eq_true hj] at hM
  exact two_t' hM

set_option maxHeartbeats 1000000 in
set_option maxRecDepth 100000 in
theorem clone_rows (A : Option Addr) (c : Nat) (l : List (List Int)) (w : World) (hr : Kd.C kR w A l.length l) (hbig : l.length ≤ 1000000) :
    Calls Try.prog 78 #[.slice A l.length c] w fun e w' => ∃ v, e = .returned v ∧ Kd.R (Kd.fixed kR w) 25 w' w.heap.size (fun _ => True) v l ∧ Below w.heap.size w w' := by
  have HR := Aside0.mk hr
  clear hr
  cases A with
  | none =>
    have hl : l = [] := by
      rcases Nat.eq_zero_or_pos l.length with h0 | h0
      · exact List.length_eq_zero_iff.1 h0
      · obtain ⟨ad, e, _⟩ := HR.out.2.2 h0
        cases e
    subst hl
    have q1 := fun w => Lib.run_eql_slice_nil (P := Try.prog) w 22 25 none 0 c 0 0 Try.underlying22
    go_enter Try.func78, Try.ntmps78
    go_wp2_with fail
    go_returns
    exact ⟨_, rfl, Kd.R_nil _ _ _ _ _, Below.refl _ _⟩
  | some ad =>
    have q1 := fun w => Lib.run_eql_slice_nil (P := Try.prog) w 22 25 (some ad) l.length c 0 0 Try.underlying22
    go_enter Try.func78, Try.ntmps78
    go_wp2_with (first | ((with_reducible refine gate_dst (N := 5) rfl ?_); refine Kd.R_lit (Kd.fixed kR w) (w0 := w) w.heap.size 25 ?hg (N := 5) ?hd (xs := ([] : List (List Int))) (inner := []) (ok := fun _ => True) (okp := fun _ => True) ?hr ?hp (fun _ hk => hk) trivial (Below.refl _ _) (Nat.le_refl _) (by simp) ?_; (case hd => rfl); (case hg => rfl); (case hr => first | (go_simp; done) | (go_simp; rfl)); (case hp => exact (Reps.none _ _)); intro v1 w1 ho hb hg_ hnew_; clear hg_ hnew_; have HO := Aside0.mk ho; have HB1 := Aside0.mk hb; clear ho hb) | ((with_reducible refine gate_builtin (b := .append) (xs := #[.tmp 5, .tmp 6]) rfl ?_); at_builtin; refine Kd.R_append_rows (Kd.fixed kR w) (Rr := kR.K w) (w0 := w) w.heap.size rfl (.tmp 5) (.tmp 6) 22 25 (.slice none 0 0) 24 rfl Try.underlying22 info_row rfl (show 0 < 1 by decide) (by omega) v1 [] l (some ad) l.length c (fun _ => True) (fun _ => False) rfl rfl HO.out (ReadsRow.imp_ HR.out HB1.out (fun _ _ h => h)) (fun _ _ h => h) (fun _ h => h.elim) (fun _ _ => trivial) HB1.out (below_size HB1.out) (by simp only [List.length_nil]; omega) ?_; intro v2 w2 ho hb hg hat; clear hg hat; have HO2 := Aside0.mk ho; have HB2 := Aside0.mk hb; clear ho hb))
    go_returns
    exact ⟨_, rfl, HO2.out, HB2.out⟩

def copied.f (l : List (List Int)) : Option (List (List Int)) := if l.length ≤ 1000000 ∧ l.all (fun v => decide (v.length ≤ 1000000)) = true then some l else none

set_option maxHeartbeats 2000000 in
set_option maxRecDepth 100000 in
theorem copied.calls (A : Option Addr) (c : Nat) (l : List (List Int)) (r : List (List Int)) (w : World) (hr : Kd.C (Kd.slice 21 (Kd.int .i32)) w A l.length l) (hc : l.length ≤ c) (h : copied.f l = some r) :
    Calls Try.prog 65 #[.slice A l.length c] w fun e w' => ∃ v0_ : Value, e = .returned (v0_) ∧ Kd.R (Kd.slice 21 (Kd.int .i32)) 25 w' w.heap.size (fun _ => True) v0_ r ∧ Below w.heap.size w w' := by
  unfold copied.f at h
  split at h
  case isFalse => cases h
  case isTrue hbig =>
  obtain rfl := Option.some.inj h
  clear h
  have HS := Aside0.mk hbig.2
  have HC := Aside0.mk (clone_rows A c l w hr hbig.1)
  have HR := Aside0.mk hr
  clear hr hbig hc
  go_enter Try.func65, Try.ntmps65
  go_wp2_with fail
  refine HC.out.mono ?_
  rintro e w1 ⟨v1, rfl, ho, hb1⟩
  by_cases h0 : l.length = 0
  · obtain rfl : l = [] := List.length_eq_zero_iff.1 h0
    obtain ⟨A1, c1, rfl, _, _⟩ := Kd.R_reads ho
    have HO := Aside0.mk (tag_out (tag_in ho))
    have HB1 := Aside0.mk hb1
    clear ho hb1 h0
    go_wp2_with fail
    go_loopg [9] 0 (fun gg s9 wr => s9 = .int .i64 0 ∧ Aside0 (wr = w1))
    case atStart => exact ⟨rfl, ⟨rfl⟩⟩
    case round =>
      obtain ⟨rfl, HE⟩ := hrel
      have he := HE.out
      subst he
      go_wp2_with fail
      go_returns
      exact ⟨_, rfl, HO.out, HB1.out⟩
  obtain ⟨g, cap, rfl, hg, hgl, cells, hcells⟩ := Kd.R_form ho (by omega)
  have HO := Aside0.mk (tag_in ho)
  have HB1 := Aside0.mk hb1
  have hm := Kd.C_max HR.out
  clear ho hb1 h0 hcells
  go_wp2_with fail
  go_loopg [9] l.length (fun gg s9 wr => ∃ kk : Nat, kk ≤ l.length ∧ l.length - kk ≤ gg ∧ s9 = .int .i64 kk ∧ Aside0 (Kd.R (kT w) 25 wr w.heap.size (fun _ => True) (.slice (some ⟨g, 0, none⟩) l.length cap) (tagged l kk)) ∧ Aside0 (Below w.heap.size w wr))
  case atStart => exact ⟨0, Nat.zero_le _, by omega, rfl, HO, HB1⟩
  case round =>
    obtain ⟨kk, hkk, hgg, rfl, HW, HB⟩ := hrel
    by_cases hlt : kk < l.length
    · have hltz : (kk : Int) < (l.length : Int) := by omega
      obtain ⟨cs, hcl, hM, hcell, hfr⟩ := Kd.R_elem HW.out ([], false) (kk : Int) (by omega) (by omega)
      rw [Int.toNat_natCast] at hM hcell hfr
      have hgd : (tagged l kk).getD kk ([], false) = (l.getD kk [], false) := by
        rw [List.getD_eq_getElem?_getD, tagged_get l kk kk (l.getD kk []) (by rw [getD_of_lt l kk [] hlt]; exact List.getElem?_eq_getElem hlt)]
        simp
      rw [hgd] at hM
      have hM' : kR.K w (l.getD kk []) cs := two_f' hM
      obtain ⟨A', c', rfl, hlc', hC⟩ := hM'
      have q1 : wr.cell? ⟨g, kk, none⟩ = some (.slice A' (l.getD kk []).length c') := by
        have := hcell 0 _ rfl
        rwa [show (kT w).sz = 1 from rfl, Nat.mul_one, Nat.add_zero] at this
      have f1 : wr.frozen? ⟨g, kk, none⟩ = false := by
        have := hfr 0
        rwa [show (kT w).sz = 1 from rfl, Nat.mul_one, Nat.add_zero] at this
      have hlk : (l.getD kk []).length ≤ 1000000 := by
        have := List.all_eq_true.1 HS.out (l[kk]) (List.getElem_mem hlt)
        rw [getD_of_lt l kk [] hlt]
        simpa using this
      have HCL := Aside0.mk (clone_i32.calls A' c' (l.getD kk []) (l.getD kk []) wr (Kd.C_below hC HB.out) hlc' (by unfold clone_i32.f; rw [if_pos (by omega)]))
      have HCC := Aside0.mk hcell
      have HTS := Aside0.mk (tagged_set l kk hlt)
      clear hM hcell hfr hgd hC hlc' hlk
      generalize l.getD kk [] = x at *
      go_wp2_with fail
      refine HCL.out.mono ?_
      rintro e w2 ⟨v2, rfl, ho2, hb2⟩
      obtain ⟨A2, c2, rfl⟩ := Kd.R_slice ho2
      have HW2 := Aside0.mk (Kd.R_below HW.out hb2)
      have HO2 := Aside0.mk ho2
      have HB2 := Aside0.mk (below_step HB.out hb2)
      have hgw : g < wr.heap.size := by
        have := Kd.R_lt HW.out g (by simp [Value.ownBlock])
        exact this
      have q2 : w2.cell? ⟨g, kk, none⟩ = some (.slice A' x.length c') := (hb2.cell (p := ⟨g, kk, none⟩) hgw).trans q1
      have f2 : w2.frozen? ⟨g, kk, none⟩ = false := (hb2.frozen (p := ⟨g, kk, none⟩) hgw).trans f1
      have HSEG := Aside0.mk (Kd.R_seg (d := kT w) (seg := [.slice A2 x.length c2]) (j := 0) (okp := fun k => w.heap.size ≤ k ∧ wr.heap.size ≤ k) (x' := (x, true)) HW2.out (kk : Int) (by omega) (by omega) hcl (fun j u hu => by
          have := HCC.out j u hu
          exact (hb2.cell (p := ⟨g, kk * (kT w).sz + j, none⟩) hgw).trans this) (show 0 + 1 ≤ 1 by decide) (by
          refine two_t ?_
          exact ⟨_, rfl, Kd.R_mono (Kd.R_lower (Kd.R_bound HO2.out) HB.out.size) (fun k hk => ⟨Nat.le_trans HB.out.size hk.2.1, hk.2.1⟩)⟩) (fun k hk => ⟨trivial, by omega⟩))
      clear hb2 ho2 q1 f1
      go_wp2_with fail
      have HF := Aside0.mk (by have := HSEG.out.1; rw [Int.toNat_natCast, HTS.out, show (kT w).sz = 1 from rfl, Nat.mul_one, Nat.add_zero] at this; exact this : Kd.R (kT w) 25 (w2.setCell ⟨g, kk, none⟩ (.slice A2 x.length c2)) w.heap.size (fun _ => True) (.slice (some ⟨g, 0, none⟩) l.length cap) (tagged l (kk + 1)))
      have HBF := Aside0.mk (HB2.out.setCell (p := ⟨g, kk, none⟩) hg (.slice A2 x.length c2))
      go_roundg (l.length - (kk + 1))
      case measure => omega
      case rel => exact ⟨kk + 1, hlt, by omega, by go_num, HF, HBF⟩
    · obtain rfl : kk = l.length := by omega
      go_wp2_with fail
      go_returns
      exact ⟨_, rfl, tag_out HW.out, HB.out⟩

end Go.Proofs.Ytbdoeikdoohagaa.G
