/- Plain: what the reader reads and what the writer lays lead back to one another; records. Plain: records and their bytes lead back to one another. Plain: records' bytes and what is parsed lead back to one another. quiverlaw24.wakes answers true. Words for the walks of quiverlaw24: bytes that are the same, a cut's beginning. quiverlaw24.RecordParsed answers true. -/
import Derived.Test.YtngjaaldidmgjaaMG
import Derived.Test.YtngjaaldidmgjaaMC
import Derived.Lib.Bytes
namespace Go.Proofs.Ytngjaaldidmgjaa.G

section
open Go.Shelf Go.RowKit Go.Proofs.YtngjaaldidmgjaaW.PrintWords Go.Proofs.YtngjaaldidmgjaaW.PrintLast Go.Proofs.YtngjaaldidmgjaaW.PrintMore
set_option linter.unusedVariables false
set_option linter.unusedSimpArgs false

def isB (x : Int) : Prop := 0 ≤ x ∧ x ≤ 255
/-- The reader is well and has this left. -/
def At (bs : List Int) (t : RS) (l : List Int) : Prop := t.ok = true ∧ bs.drop t.p = l
theorem ok_iff (t : RS) : t.ok = true ↔ t.b = false ∧ t.s = false := by
  unfold RS.ok
  cases t.b <;> cases t.s <;> simp
theorem num_from {bs : List Int} {t : RS} (n : Nat) (h : (sNum bs (n : Int) t).ok = true) : ∃ x, x.length = n ∧ (∀ c ∈ x, c ∈ bs) ∧ At bs t (x ++ bs.drop (sNum bs (n : Int) t).p) ∧ sVal bs (n : Int) t = num x := by
  obtain ⟨p, s, b⟩ := t
  obtain ⟨hb, hs⟩ := (ok_iff _).1 h
  unfold sNum at hb hs
  simp only at hb hs
  subst hb
  have hf : fits bs.length p s (n : Int) = true := by
    unfold scBad at hs
    simpa using hs
  obtain ⟨rfl, _, h2⟩ := (fits_iff _ _ _ _).1 hf
  refine ⟨(bs.drop p).take n, by rw [List.length_take, List.length_drop]; omega, fun c hc => List.mem_of_mem_drop (List.mem_of_mem_take hc), ⟨rfl, ?_⟩, ?_⟩
  · unfold sNum
    simp only
    rw [scPl_yes hf, ← List.drop_drop, List.take_append_drop]
  · unfold sVal
    simp only
    rw [scTake_yes hf]
theorem At.bytes {bs : List Int} {t : RS} {l : List Int} (hby : ∀ x ∈ bs, isB x) (h : At bs t l) : ∀ x ∈ l, isB x := fun x hx => hby x (List.mem_of_mem_drop (h.2 ▸ hx))
theorem checkV_iff (v : List Int) : checkV v = 0 ↔ right v = true := by
  unfold checkV
  cases right v with
  | true => exact ⟨fun _ => rfl, fun _ => rfl⟩
  | false => exact ⟨fun h => by simp at h, fun h => by cases h⟩
theorem takeVR_is (bs : List Int) : takeVR bs = tvg bs 0 right := tvg_is bs 0 (Nat.zero_le _) right checkV checkV_iff

theorem vec_from {bs : List Int} {t : RS} (hby : ∀ x ∈ bs, isB x) (h : (sVec bs t).2.ok = true) : right (sVec bs t).1 = true ∧ ∃ rest, At bs t (vecB (sVec bs t).1 ++ rest) ∧ At bs (sVec bs t).2 rest := by
  unfold sVec at h ⊢
  by_cases ho : t.ok = true
  · rw [if_pos ho] at h ⊢
    rw [takeVR_is] at h ⊢
    by_cases hz : (tvg (bs.drop t.p) 0 right).2.2 = 0
    · rw [if_pos hz] at h ⊢
      obtain ⟨h1, h2, h3, h4, h5⟩ := tvg_range _ _ _ hz
      have hby2 : ∀ x ∈ bs.drop t.p, 0 ≤ x ∧ x ≤ 255 := fun x hx => hby x (List.mem_of_mem_drop hx)
      have hv := vecB_tvg (bs.drop t.p) 0 hby2 h1 h2 h3
      rw [h5] at h ⊢
      simp only at h ⊢
      refine ⟨h4, bs.drop (t.p + (0 + 1 + 4 * ((bs.drop t.p).getD 0 0).toNat)), ⟨ho, ?_⟩, ?_⟩
      · rw [hv, ← List.drop_drop]
        simp only [List.drop_zero]
        rw [show 0 + 1 + 4 * ((bs.drop t.p).getD 0 0).toNat = 1 + 4 * ((bs.drop t.p).getD 0 0).toNat by omega, List.take_append_drop]
      · refine ⟨h, ?_⟩
        obtain ⟨x, hxl, _, ⟨_, hxd⟩, _⟩ := num_from _ h
        have e := congrArg (List.drop x.length) hxd
        rw [List.drop_left' rfl, List.drop_drop, hxl] at e
        exact e.symm
    · rw [if_neg hz] at h
      simp [RS.ok] at h
  · rw [if_neg ho] at h
    exact absurd h ho

/-- A write whose numbers are of their width. -/
def wrV (x : Wr) : Prop := (0 ≤ x.f0 ∧ x.f0 ≤ 255) ∧ (0 ≤ x.f1 ∧ x.f1 ≤ 18446744073709551615) ∧ (x.f2 = true → x.f3 = []) ∧ (x.f2 = false → right x.f3 = true)
theorem one_from {bs : List Int} {t : RS} (hby : ∀ x ∈ bs, isB x) (h : (sNum bs 1 t).ok = true) : isB (sVal bs 1 t) ∧ At bs t ([sVal bs 1 t] ++ bs.drop (sNum bs 1 t).p) := by
  obtain ⟨x, hx, hm, ha, hv⟩ := num_from 1 h
  obtain ⟨c, rfl⟩ : ∃ c, x = [c] := by
    match x, hx with
    | [c], _ => exact ⟨c, rfl⟩
  have hv : sVal bs 1 t = c := by rw [← num_one c]; exact hv
  rw [hv]
  exact ⟨hby c (hm c (List.mem_singleton.2 rfl)), ha⟩
theorem eight_from {bs : List Int} {t : RS} (hby : ∀ x ∈ bs, isB x) (h : (sNum bs 8 t).ok = true) : (0 ≤ sVal bs 8 t ∧ sVal bs 8 t ≤ 18446744073709551615) ∧ At bs t (putBytes 8 (sVal bs 8 t) ++ bs.drop (sNum bs 8 t).p) := by
  obtain ⟨x, hx, hm, ha, hv⟩ := num_from 8 h
  have hv : sVal bs 8 t = num x := hv
  have hr := num_range x (fun c hc => hby c (hm c hc))
  rw [hx, show (256 : Int) ^ 8 = 18446744073709551616 by decide] at hr
  rw [hv, put_num 8 x (by decide) hx (fun c hc => hby c (hm c hc))]
  exact ⟨⟨hr.1, by omega⟩, ha⟩

theorem write_from {bs : List Int} {t : RS} (hby : ∀ x ∈ bs, isB x) (h : (sWrite bs t).2.ok = true) : wrV (sWrite bs t).1 ∧ ∃ rest, At bs t (wrB (sWrite bs t).1 ++ rest) ∧ At bs (sWrite bs t).2 rest := by
  unfold sWrite at h ⊢
  simp only at h ⊢
  have key : ∀ (u : RS), (sNum bs 1 (sNum bs 8 (sNum bs 1 t))) = u → u.ok = true → (isB (sVal bs 1 t) ∧ (0 ≤ sVal bs 8 (sNum bs 1 t) ∧ sVal bs 8 (sNum bs 1 t) ≤ 18446744073709551615)) ∧ At bs t ([sVal bs 1 t] ++ putBytes 8 (sVal bs 8 (sNum bs 1 t)) ++ [sVal bs 1 (sNum bs 8 (sNum bs 1 t))] ++ bs.drop u.p) := by
    rintro u rfl hu
    obtain ⟨_, h3⟩ := one_from hby hu
    obtain ⟨r2, h2⟩ := eight_from hby h3.1
    obtain ⟨r1, h1⟩ := one_from hby h2.1
    refine ⟨⟨r1, r2⟩, h1.1, ?_⟩
    rw [h1.2, h2.2, h3.2]
    simp
  by_cases k0 : sVal bs 1 (sNum bs 8 (sNum bs 1 t)) = 0
  · rw [if_pos k0] at h ⊢
    simp only at h ⊢
    obtain ⟨hv, rest, ha, hr⟩ := vec_from hby h
    obtain ⟨⟨r1, r2⟩, hk⟩ := key _ rfl ha.1
    refine ⟨⟨r1, r2, fun e => (nomatch e), fun _ => hv⟩, rest, ⟨hk.1, ?_⟩, hr⟩
    rw [hk.2, ha.2, k0]
    unfold wrB
    simp only
    rw [show sVal bs 1 t % 256 = sVal bs 1 t by have := r1.1; have := r1.2; omega, if_neg (by decide)]
    simp
  · rw [if_neg k0] at h ⊢
    by_cases k1 : sVal bs 1 (sNum bs 8 (sNum bs 1 t)) = 1
    · rw [if_pos k1] at h ⊢
      simp only at h ⊢
      obtain ⟨⟨r1, r2⟩, hk⟩ := key _ rfl h
      refine ⟨⟨r1, r2, fun _ => rfl, fun e => (nomatch e)⟩, _, ⟨hk.1, ?_⟩, h, rfl⟩
      rw [hk.2, k1]
      unfold wrB
      simp only [if_true]
      rw [show sVal bs 1 t % 256 = sVal bs 1 t by have := r1.1; have := r1.2; omega]
    · rw [if_neg k1] at h
      simp [RS.ok] at h

theorem many_from {α : Type} {bs : List Int} {f : RS → α × RS} {enc : α → List Int} {ok : α → Prop} (hf : ∀ (t : RS), (f t).2.ok = true → ok (f t).1 ∧ ∃ rest, At bs t (enc (f t).1 ++ rest) ∧ At bs (f t).2 rest) :
    ∀ (n : Nat) (t : RS), (sMany f n t).2.ok = true → (sMany f n t).1.length = n ∧ (∀ x ∈ (sMany f n t).1, ok x) ∧ ∃ rest, At bs t (((sMany f n t).1.map enc).flatten ++ rest) ∧ At bs (sMany f n t).2 rest
  | 0, t, h => ⟨rfl, fun x hx => (nomatch hx), bs.drop t.p, ⟨h, rfl⟩, ⟨h, rfl⟩⟩
  | n + 1, t, h => by
    rw [sMany] at h ⊢
    by_cases ho : t.ok = true
    · rw [if_pos ho] at h ⊢
      simp only at h ⊢
      obtain ⟨hl, hx, rest, ha, hr⟩ := many_from hf n (f t).2 h
      obtain ⟨hok, rest1, ha1, hr1⟩ := hf t ha.1
      refine ⟨by rw [List.length_cons, hl], fun x hx' => ?_, rest, ⟨ho, ?_⟩, hr⟩
      · rcases List.mem_cons.1 hx' with rfl | hx'
        · exact hok
        · exact hx x hx'
      · rw [List.map_cons, List.flatten_cons, List.append_assoc, ha1.2, ← hr1.2, ha.2]
    · rw [if_neg ho] at h
      exact absurd h ho
end

section
open Go.Shelf Go.RowKit Go.Proofs.YtngjaaldidmgjaaW.PrintWords Go.Proofs.YtngjaaldidmgjaaW.PrintLast Go.Proofs.YtngjaaldidmgjaaW.PrintMore
set_option linter.unusedVariables false
set_option linter.unusedSimpArgs false

/-- The ids are of their width. -/
def rcV (r : Rc) : Prop := ∀ x ∈ r.f5, 0 ≤ x.f1 ∧ x.f1 ≤ 18446744073709551615
def t0 : RS := ⟨0, false, false⟩
/-- What is read is laid. -/
theorem rec_from {bs : List Int} (hby : ∀ x ∈ bs, isB x) (h : decOk bs = true) : recOk (sDec bs).rec_ = true ∧ rcV (sDec bs).rec_ ∧ recBs (sDec bs).rec_ = bs := by
  unfold decOk at h
  rw [Bool.and_eq_true, Bool.and_eq_true, decide_eq_true_eq] at h
  obtain ⟨hok, hpl, hr⟩ := h
  refine ⟨hr, ?_⟩
  have hk := okKinds hr
  have hend : bs.drop (sDec bs).t.p = [] := List.drop_eq_nil_of_le hpl
  have hz : ∀ (t : RS) (l : List Int), At bs t l → t = t0 → l = bs := fun t l ha e => by rw [← ha.2, e]; rfl
  clear hpl
  unfold sDec at hok hk hend ⊢
  simp only at hok hk hend ⊢
  rw [show (⟨0, false, false⟩ : RS) = t0 from rfl] at *
  by_cases k1 : sVal bs 1 t0 = 1
  · rw [if_pos k1] at hok hk hend ⊢
    unfold sCommit at hok hk hend ⊢
    unfold DR.rec_
    simp only at hok hk hend ⊢
    obtain ⟨hl, hx, rest, ha, hrr⟩ := many_from (fun t => write_from (t := t) hby) _ _ hok
    rw [hrr.2] at hend
    subst hend
    obtain ⟨r2, h2⟩ := one_from hby ha.1
    obtain ⟨r1, h1⟩ := eight_from hby h2.1
    obtain ⟨r0, h0⟩ := one_from hby h1.1
    refine ⟨fun x hx' => (hx x hx').2.1, ?_⟩
    refine Eq.trans ?_ (hz _ _ h0 rfl)
    rw [h1.2, h2.2, ha.2, k1]
    unfold recBs recB bodyB
    simp only [if_true]
    rw [hl, show ((sVal bs 1 (sNum bs 8 (sNum bs 1 t0))).toNat : Int) % 256 = sVal bs 1 (sNum bs 8 (sNum bs 1 t0)) by have := r2.1; have := r2.2; omega]
    simp [wrsB]
  rw [if_neg k1] at hok hk hend ⊢
  by_cases k2 : sVal bs 1 t0 = 2
  · rw [if_pos k2] at hok hk hend ⊢
    unfold DR.rec_
    simp only at hok hk hend ⊢
    obtain ⟨r2, h2⟩ := one_from hby hok
    obtain ⟨r1, h1⟩ := one_from hby h2.1
    obtain ⟨r0, h0⟩ := one_from hby h1.1
    refine ⟨fun x hx' => (nomatch hx'), ?_⟩
    refine Eq.trans ?_ (hz _ _ h0 rfl)
    rw [h1.2, h2.2, hend, k2]
    unfold recBs recB bodyB
    simp only [show ¬ ((2 : Int) = 1) by decide, if_false, if_true]
    rw [show sVal bs 1 (sNum bs 1 t0) % 256 = sVal bs 1 (sNum bs 1 t0) by have := r1.1; have := r1.2; omega, show sVal bs 1 (sNum bs 1 (sNum bs 1 t0)) % 256 = sVal bs 1 (sNum bs 1 (sNum bs 1 t0)) by have := r2.1; have := r2.2; omega]
    simp
  rw [if_neg k2] at hok hk hend ⊢
  by_cases k3 : sVal bs 1 t0 = 3
  · rw [if_pos k3] at hok hk hend ⊢
    unfold DR.rec_
    simp only at hok hk hend ⊢
    obtain ⟨r1, h1⟩ := one_from hby hok
    obtain ⟨r0, h0⟩ := one_from hby h1.1
    refine ⟨fun x hx' => (nomatch hx'), ?_⟩
    refine Eq.trans ?_ (hz _ _ h0 rfl)
    rw [h1.2, hend, k3]
    unfold recBs recB bodyB
    simp only [show ¬ ((3 : Int) = 1) by decide, show ¬ ((3 : Int) = 2) by decide, if_false, if_true]
    rw [show sVal bs 1 (sNum bs 1 t0) % 256 = sVal bs 1 (sNum bs 1 t0) by have := r1.1; have := r1.2; omega]
    simp
  rw [if_neg k3] at hok hk hend ⊢
  by_cases k4 : sVal bs 1 t0 = 4
  · rw [if_pos k4] at hok hk hend ⊢
    unfold sTrain at hok hk hend ⊢
    unfold DR.rec_
    simp only at hok hk hend ⊢
    obtain ⟨hl, hx, rest, ha, hrr⟩ := many_from (enc := vecB) (bs := bs) (ok := fun v => right v = true) (fun t => vec_from (t := t) hby) _ _ hok
    rw [hrr.2] at hend
    subst hend
    obtain ⟨r2, h2⟩ := one_from hby ha.1
    obtain ⟨r1, h1⟩ := one_from hby h2.1
    obtain ⟨r0, h0⟩ := one_from hby h1.1
    refine ⟨fun x hx' => (nomatch hx'), ?_⟩
    refine Eq.trans ?_ (hz _ _ h0 rfl)
    rw [h1.2, h2.2, ha.2, k4]
    unfold recBs recB bodyB
    simp only [show ¬ ((4 : Int) = 1) by decide, show ¬ ((4 : Int) = 2) by decide, show ¬ ((4 : Int) = 3) by decide, if_false, if_true]
    rw [hl, show ((sVal bs 1 (sNum bs 1 (sNum bs 1 t0))).toNat : Int) % 256 = sVal bs 1 (sNum bs 1 (sNum bs 1 t0)) by have := r2.1; have := r2.2; omega, show sVal bs 1 (sNum bs 1 t0) % 256 = sVal bs 1 (sNum bs 1 t0) by have := r1.1; have := r1.2; omega]
    simp [vecsB]
  rw [if_neg k4] at hok hk hend ⊢
  by_cases k5 : sVal bs 1 t0 = 5
  · rw [if_pos k5] at hok hk hend ⊢
    unfold DR.rec_
    simp only at hok hk hend ⊢
    obtain ⟨r1, h1⟩ := eight_from hby hok
    obtain ⟨r0, h0⟩ := one_from hby h1.1
    refine ⟨fun x hx' => (nomatch hx'), ?_⟩
    refine Eq.trans ?_ (hz _ _ h0 rfl)
    rw [h1.2, hend, k5]
    unfold recBs recB bodyB
    simp only [show ¬ ((5 : Int) = 1) by decide, show ¬ ((5 : Int) = 2) by decide, show ¬ ((5 : Int) = 3) by decide, show ¬ ((5 : Int) = 4) by decide, if_false]
    simp
  rw [if_neg k5] at hk
  simp only at hk
  rcases hk with ⟨e, _⟩ | ⟨e, _⟩ | ⟨e, _⟩ | ⟨e, _⟩ | ⟨e, _⟩
  · exact absurd e k1
  · exact absurd e k2
  · exact absurd e k3
  · exact absurd e k4
  · exact absurd e k5
end

section
open Go.Shelf Go.RowKit Go.Proofs.YtngjaaldidmgjaaW.PrintWords Go.Proofs.YtngjaaldidmgjaaW.PrintLast Go.Proofs.YtngjaaldidmgjaaW.PrintMore
set_option linter.unusedVariables false
set_option linter.unusedSimpArgs false

theorem allB_cons (r : Rc) (l : List Rc) : allB (r :: l) = putBytes 2 ((recBs r).length : Int) ++ (recBs r ++ allB l) := by unfold allB lenB; rw [List.map_cons, List.flatten_cons, List.append_assoc]
theorem num_put2 (x : Int) (h0 : 0 ≤ x) (h1 : x ≤ 65535) : num (putBytes 2 x) = x := by
  rw [num_put 2 x h0 (by decide), show (256 : Int) ^ (2 : Int).toNat = 65536 by decide]
  omega
theorem recBs_pos (r : Rc) : 1 ≤ (recBs r).length := by unfold recBs recB; simp
theorem sc_at {bs : List Int} {pl : Nat} {x rest : List Int} (h : bs.drop pl = x ++ rest) (hx : 1 ≤ x.length) : scTake bs pl false (x.length : Int) = x ∧ scPl bs.length pl false (x.length : Int) = pl + x.length ∧ scBad bs.length pl false (x.length : Int) = false ∧ bs.drop (pl + x.length) = rest := by
  have hl := congrArg List.length h
  rw [List.length_drop, List.length_append] at hl
  have hf : fits bs.length pl false (x.length : Int) = true := fits_yes bs pl x.length (by omega) (by omega)
  rw [scTake_yes hf, scPl_yes hf, scBad_yes hf, h]
  exact ⟨List.take_left' rfl, rfl, rfl, by rw [← List.drop_drop, h, List.drop_left' rfl]⟩
theorem own_at {bs : List Int} {pl : Nat} {r : Rc} {rest : List Int} (hr : recOk r = true) (h : bs.drop pl = putBytes 2 ((recBs r).length : Int) ++ (recBs r ++ rest)) : ownB bs pl = recBs r ∧ ownPl bs pl = pl + (2 + (recBs r).length) ∧ bs.drop (ownPl bs pl) = rest := by
  have h1 := sc_at h (by rw [put2_len]; omega)
  rw [put2_len] at h1
  obtain ⟨a1, a2, a3, a4⟩ := h1
  have a1 : scTake bs pl false 2 = _ := a1
  have a2 : scPl bs.length pl false 2 = pl + 2 := a2
  have a3 : scBad bs.length pl false 2 = false := a3
  have hn : ownN bs pl = ((recBs r).length : Int) := by
    unfold ownN
    rw [a1, num_put2 _ (by omega) (by have := recBs_le hr; omega)]
  obtain ⟨b1, b2, b3, b4⟩ := sc_at a4 (recBs_pos r)
  unfold ownB ownPl
  rw [hn, a2, a3, b1, b2]
  exact ⟨rfl, by omega, b4⟩
theorem allB_ge (l : List Rc) : l.length ≤ (allB l).length := by
  induction l with
  | nil => exact Nat.zero_le _
  | cons r l ih =>
    rw [allB_cons, List.length_append, List.length_append, put2_len, List.length_cons]
    omega
theorem parse_from {bs : List Int} (hby : ∀ x ∈ bs, isB x) : ∀ (k pl : Nat) (l : List Rc), parseGo bs k pl = some l → (∀ r ∈ l, recOk r = true ∧ rcV r) ∧ allB l = bs.drop pl
  | 0, pl, l, h => by cases h
  | k + 1, pl, l, h => by
    rw [parseGo] at h
    by_cases hp : bs.length ≤ pl
    · rw [if_pos hp] at h
      injection h with h
      subst h
      exact ⟨fun r hr => (nomatch hr), (List.drop_eq_nil_of_le hp).symm⟩
    · rw [if_neg hp] at h
      by_cases hd : decOk (ownB bs pl) = true
      · rw [if_pos hd] at h
        obtain ⟨l', h1, h2⟩ := Option.map_eq_some_iff.1 h
        subst h2
        obtain ⟨i1, i2⟩ := parse_from hby k _ l' h1
        have hby2 : ∀ x ∈ ownB bs pl, isB x := fun x hx => hby x (scTake_sub x hx)
        obtain ⟨r1, r2, r3⟩ := rec_from hby2 hd
        refine ⟨fun r hr => ?_, ?_⟩
        · rcases List.mem_cons.1 hr with rfl | hr
          · exact ⟨r1, r2⟩
          · exact i1 r hr
        · have hg := (own_good hd).1
          unfold ownBad at hg
          have f2 : fits bs.length (scPl bs.length pl false 2) (scBad bs.length pl false 2) (ownN bs pl) = true := by
            unfold scBad at hg ⊢
            simpa using hg
          have s1 := ((fits_iff _ _ _ _).1 f2).1
          have f1 : fits bs.length pl false ((2 : Nat) : Int) = true := by
            unfold scBad at s1
            simpa using s1
          obtain ⟨_, g1, g2⟩ := (fits_iff _ _ _ _).1 f1
          have p1 : scPl bs.length pl false 2 = pl + 2 := scPl_yes f1
          have t1 : scTake bs pl false 2 = (bs.drop pl).take 2 := scTake_yes f1
          rw [p1, s1] at f2
          obtain ⟨_, n1, n2⟩ := (fits_iff _ _ _ _).1 f2
          obtain ⟨n, hn⟩ : ∃ n : Nat, ownN bs pl = (n : Int) := ⟨(ownN bs pl).toNat, by omega⟩
          rw [hn] at f2 n2
          have ho : ownB bs pl = (bs.drop (pl + 2)).take n := by unfold ownB; rw [p1, s1, hn]; exact scTake_yes f2
          have hpl : ownPl bs pl = pl + 2 + n := by unfold ownPl; rw [p1, s1, hn]; exact scPl_yes f2
          have hol : (ownB bs pl).length = n := by rw [ho, List.length_take, List.length_drop]; omega
          have hx2 : putBytes 2 (n : Int) = (bs.drop pl).take 2 := by
            rw [← hn]
            unfold ownN
            rw [t1]
            exact put_num 2 _ (by decide) (by rw [List.length_take, List.length_drop]; show min 2 _ = 2; omega) (fun x hx => hby x (List.mem_of_mem_drop (List.mem_of_mem_take hx)))
          rw [allB_cons, r3, hol, hx2, i2, hpl, ho, ← List.drop_drop (i := n) (j := pl + 2), List.take_append_drop, ← List.drop_drop, List.take_append_drop]
      · rw [if_neg hd] at h
        cases h
theorem parse_back2 {bs : List Int} {l : List Rc} (hby : ∀ x ∈ bs, isB x) (h : parseR bs = some l) : (∀ r ∈ l, recOk r = true ∧ rcV r) ∧ allB l = bs := by
  have e := parse_from hby _ _ _ h
  rw [List.drop_zero] at e
  exact e
end

section
open Go.Shelf Go.RowKit Go.Proofs.YtngjaaldidmgjaaW.PrintWords Go.Proofs.YtngjaaldidmgjaaW.PrintLast Go.Proofs.YtngjaaldidmgjaaW.PrintMore
set_option linter.unusedVariables false
set_option linter.unusedSimpArgs false

theorem dec213 : decOk [2, 1, 3] = true ∧ (sDec [2, 1, 3]).rec_ = ⟨2, 0, 0, 1, 3, [], []⟩ := ⟨by decide, rfl⟩
theorem dec215 : decOk [2, 1, 5] = false := by decide
theorem enc258 : recB 5 0 258 0 0 [] [] = [5, 0, 0, 0, 0, 0, 0, 1, 2] := by decide

set_option maxHeartbeats 4000000 in
set_option maxRecDepth 100000 in
theorem wakes24 (w : World) : Calls Try.prog 14 #[] w fun e w' => e = .returned (.bool true) ∧ Below w.heap.size w w' := by
  have HE := Aside0.mk (encYes 5 0 258 0 0 [] [] none 0 none 0 w (Kd.C_nil _ _) (Nat.le_refl _) (Kd.C_nil _ _) (by decide))
  rw [enc258] at HE
  simp only [List.length_nil] at HE
  have HD := Aside0.mk (fun (W : World) => decGo (some ⟨W.heap.size, 0, none⟩) 3 [2, 1, 3] (W.alloc (.cells #[.int .u8 2, .int .u8 1, .int .u8 3] 5)) (C_lit .u8 W [2, 1, 3] 5 (by decide)) (Nat.le_refl _) (by decide) (by decide))
  have HF := Aside0.mk (fun (W : World) => decGo (some ⟨W.heap.size, 0, none⟩) 3 [2, 1, 5] (W.alloc (.cells #[.int .u8 2, .int .u8 1, .int .u8 5] 5)) (C_lit .u8 W [2, 1, 5] 5 (by decide)) (Nat.le_refl _) (by decide) (by decide))
  rw [dec213.1] at HD
  rw [dec215] at HF
  have hr := dec213.2
  unfold DR.rec_ at hr
  generalize sDec [2, 1, 3] = d at *
  obtain ⟨a0, a1, a2, a3, a4, l5, l6, t⟩ := d
  simp only [P.S28.mk.injEq] at hr
  obtain ⟨rfl, rfl, rfl, rfl, rfl, rfl, rfl⟩ := hr
  generalize sDec [2, 1, 5] = d5 at *
  simp only [List.length_cons, List.length_nil] at HD HF
  go_enter Try.func14, Try.ntmps14
  go_wp2_with (go_at_call 51; refine HE.out.mono ?_; rintro e w1 ⟨v1, rfl, ho, hb⟩; obtain ⟨A1, c1, hv1, hc1, hC1⟩ := Kd.R_reads ho; subst hv1; have HB1 := Aside0.mk hb; obtain ⟨ad, hA, hcell⟩ := Kd.at_int hC1 8 (by decide) (by decide); subst hA; have HC1 := Aside0.mk hcell; clear ho hb hC1 hcell)
  refine (HD.out _).mono ?_
  rintro e w2 ⟨hyes, _, hb⟩
  obtain ⟨A5, c5, A6, c6, rfl, _, _⟩ := hyes trivial
  have HB2 := Aside0.mk ((below_alloc (Below.refl _ w1) (.cells #[.int .u8 2, .int .u8 1, .int .u8 3] 5)).trans (Below.less hb (by simp)))
  clear hyes hb
  obtain ⟨wb, hwb⟩ : ∃ wb, wb = w2.alloc (.cells #[.int .i64 2, .int .u64 0, .int .u64 0, .int .i64 1, .int .i64 3, .slice A5 0 c5, .slice A6 0 c6] 28) := ⟨_, rfl⟩
  have HX := Aside0.mk (show wb.heap[w2.heap.size]? = some (.cells #[.int .i64 2, .int .u64 0, .int .u64 0, .int .i64 1, .int .i64 3, .slice A5 0 c5, .slice A6 0 c6] 28 (0, 0)) by rw [hwb]; exact heap_alloc_new _ _)
  have HBb := Aside0.mk (show Below w1.heap.size w1 wb by rw [hwb]; exact below_alloc HB2.out _)
  have HW := Aside0.mk hwb
  clear hwb HB2
  go_upto_region 3 with (fail)
  rw [show w2.alloc (.cells #[.int .i64 2, .int .u64 0, .int .u64 0, .int .i64 1, .int .i64 3, .slice A5 0 c5, .slice A6 0 c6] 28) = wb from HW.out.symm]
  clear HW
  go_wp2_with fail
  refine (HF.out _).mono ?_
  rintro e w4 ⟨_, hno, hb⟩
  obtain rfl := hno trivial
  have hb4 : Below wb.heap.size wb w4 := (below_alloc (Below.refl _ wb) (.cells #[.int .u8 2, .int .u8 1, .int .u8 5] 5)).trans (Below.less hb (by simp))
  clear hno hb
  obtain ⟨wx, hwx⟩ : ∃ wx, wx = w4.alloc (.cells #[.int .i64 0, .int .u64 0, .int .u64 0, .int .i64 0, .int .i64 0, .slice none 0 0, .slice none 0 0] 28) := ⟨_, rfl⟩
  have hb5 : Below wb.heap.size wb wx := by rw [hwx]; exact below_alloc hb4 _
  have HW := Aside0.mk hwx
  clear hb4 hwx
  go_upto_region 4 with (fail)
  rw [show w4.alloc (.cells #[.int .i64 0, .int .u64 0, .int .u64 0, .int .i64 0, .int .i64 0, .slice none 0 0, .slice none 0 0] 28) = wx from HW.out.symm]
  clear HW
  have hX4 := blk_below HX.out hb5
  have hB4 := below_step HBb.out hb5
  have q8 : wx.cell? ⟨ad.block, ad.off + 8, none⟩ = some (.int .u8 2) := (hB4.cell (World.block_lt_of_cell? w1 _ HC1.out)).trans HC1.out
  have x3 : wx.cell? ⟨w2.heap.size, 3, none⟩ = some (.int .i64 1) := (blk_cell hX4 3).trans rfl
  have x4 : wx.cell? ⟨w2.heap.size, 4, none⟩ = some (.int .i64 3) := (blk_cell hX4 4).trans rfl
  have HB5 := Aside0.mk (show Below w.heap.size w wx from below_step HB1.out hB4)
  clear hb5 hX4 hB4
  go_wp2_with fail
  go_returns
  exact ⟨rfl, HB5.out⟩
end

section
open Go.Shelf Go.RowKit Go.Proofs.YtngjaaldidmgjaaW.PrintWords Go.Proofs.YtngjaaldidmgjaaW.PrintLast Go.Proofs.YtngjaaldidmgjaaW.PrintMore
attribute [local go_sem] max2_int min2_int max_two min_two
set_option linter.unusedVariables false
set_option linter.unusedSimpArgs false

theorem bytes_inj : ∀ (l m : List Int), (∀ x ∈ l, 0 ≤ x ∧ x ≤ 255) → (∀ x ∈ m, 0 ≤ x ∧ x ≤ 255) → Lib.bytesOf l = Lib.bytesOf m → l = m
  | [], [], _, _, _ => rfl
  | [], y :: m, _, _, h => by simp [Lib.bytesOf] at h
  | x :: l, [], _, _, h => by simp [Lib.bytesOf] at h
  | x :: l, y :: m, hl, hm, h => by
    have hx := hl x (by simp)
    have hy := hm y (by simp)
    have h' : x.toNat.toUInt8 :: Lib.bytesOf l = y.toNat.toUInt8 :: Lib.bytesOf m := h
    injection h' with h1 h2
    have := bytes_inj l m (fun z hz => hl z (by simp [hz])) (fun z hz => hm z (by simp [hz])) h2
    have h3 := congrArg UInt8.toNat h1
    rw [UInt8.toNat_ofNat', UInt8.toNat_ofNat'] at h3
    rw [this, show x = y by omega]
theorem equal_is (l m : List Int) (hl : ∀ x ∈ l, 0 ≤ x ∧ x ≤ 255) (hm : ∀ x ∈ m, 0 ≤ x ∧ x ≤ 255) : P.bytes_Equal.f l m = some (decide (l = m)) := by
  unfold P.bytes_Equal.f
  rw [Lib.strOfNums_toList, Lib.strOfNums_toList]
  by_cases h : l = m
  · subst h; simp
  · have : Lib.bytesOf l ≠ Lib.bytesOf m := fun e => h (bytes_inj l m hl hm e)
    simp [h, this]

theorem wf_u8 {x : Int} (h : (Lit.int .u8 x).wf = true) : isB x := by simpa [isB, Lit.wf, IntKind.min, IntKind.max, IntKind.signed, IntKind.bits] using h
/-- A cut's beginning: as many as there are, n0 at most. -/
theorem cut_min (A : Option Addr) (c : Nat) (l : List Int) (n0 : Nat) (hc : l.length ≤ c) :
    ∃ n : Nat, n ≤ l.length ∧ n ≤ n0 ∧ (if (n0 : Int) < (l.length : Int) then (n0 : Int) else (l.length : Int)) = (n : Int) ∧
      (∀ W : World, (Instr.slice 30 (.slice A l.length c) none (some (.int .i64 (n : Int))) none).run Try.prog W = .ok (.slice A (l.take n).length c) W) ∧
      (∀ W, Kd.C (Kd.int .u8) W A l.length l → Kd.C (Kd.int .u8) W A (l.take n).length (l.take n)) ∧ (l.take n).length ≤ c := by
  obtain ⟨i0, hi0, _, hsz0, _⟩ := info_parts info_u8
  have key : ∀ n : Nat, n ≤ l.length → (∀ W : World, (Instr.slice 30 (.slice A l.length c) none (some (.int .i64 (n : Int))) none).run Try.prog W = .ok (.slice A (l.take n).length c) W) ∧
      (∀ W, Kd.C (Kd.int .u8) W A l.length l → Kd.C (Kd.int .u8) W A (l.take n).length (l.take n)) ∧ (l.take n).length ≤ c := fun n hn => by
    obtain ⟨h1, h2, h3⟩ := print_take_of (P := Try.prog) (Value.int .u8) 0 30 5 .i64 Try.underlying30 hi0 hsz0 A c l (n : Int) (by omega) (by omega) hc
    rw [Int.toNat_natCast] at h1 h2 h3
    exact ⟨h1, fun W hC => Kd.C_of_reads (h1 := fun _ => rfl) (h2 W (Kd.reads_of_C hC)), h3⟩
  by_cases h : (n0 : Int) < (l.length : Int)
  · exact ⟨n0, by omega, Nat.le_refl _, by rw [if_pos h], key n0 (by omega)⟩
  · exact ⟨l.length, Nat.le_refl _, by omega, by rw [if_neg h], key _ (Nat.le_refl _)⟩

set_option maxHeartbeats 4000000 in
set_option maxRecDepth 100000 in
theorem recordParsed.walk (A : Option Addr) (c : Nat) (l : List Int) (W : World) (hl : l.length ≤ c) (hC : Kd.C (Kd.int .u8) W A l.length l) (hw : ∀ x ∈ l, (Lit.int .u8 x).wf = true) :
    Calls Try.prog 4 #[.slice A l.length c] W fun e w' => e = .returned (.bool true) ∧ Below W.heap.size W w' := by
  have HWK := Aside0.mk (wakes24 W)
  obtain ⟨n, hn1, hn2, hmin, hcut, hCr, hlr⟩ := cut_min A c l 900 hl
  replace hmin : (if (900 : Int) < (l.length : Int) then (900 : Int) else (l.length : Int)) = (n : Int) := hmin
  have hby : ∀ x ∈ l.take n, isB x := fun x hx => wf_u8 (hw x (List.mem_of_mem_take hx))
  have hrl : (l.take n).length ≤ 900 := by rw [List.length_take]; omega
  have HC := Aside0.mk (hCr W hC)
  have HLR := Aside0.mk hlr
  have HBY := Aside0.mk hby
  generalize l.take n = r at *
  clear hCr hl hC hw hn1 hn2 hby hlr
  go_enter Try.func4, Try.ntmps4
  go_wp2_with (first
    | (go_at_call 14; refine HWK.out.mono ?_; rintro e w1 ⟨rfl, hb⟩; have HB1 := Aside0.mk hb; clear hb))
  refine (recParse A c r _ (Kd.C_below HC.out HB1.out) HLR.out (by omega) HBY.out).mono ?_
  intro e w2 hP
  unfold ParsePost at hP
  obtain ⟨hsome, hnone, hb⟩ := hP
  have HB2 := Aside0.mk (below_step HB1.out hb)
  have HBQ := Aside0.mk hb
  clear hb
  cases hR : parseR r with
  | none =>
    obtain rfl := hnone hR
    clear hsome hnone hR
    go_wp2_with fail
    go_returns
    exact ⟨rfl, HB2.out⟩
  | some l1 =>
    obtain ⟨v, rfl, hN⟩ := hsome _ hR
    obtain ⟨h1, h2⟩ := parse_back2 HBY.out hR
    obtain ⟨A2, c2, rfl, hc2, hC2⟩ := Kd.N_reads hN
    have hl1 : l1.length ≤ 1000 := by have := allB_ge l1; rw [h2] at this; omega
    have HALL := Aside0.mk (recAll A2 c2 l1 w2 hC2 hl1)
    have HYES := Aside0.mk (show l1.all recOk = true by rw [List.all_eq_true]; exact fun x hx => (h1 x hx).1)
    have HEQ := Aside0.mk h2
    clear hsome hnone hR hN h1 h2 hC2
    go_wp2_with fail
    refine HALL.out.mono ?_
    intro e w3 hA
    unfold AllPost at hA
    obtain ⟨hyes, _, hb⟩ := hA
    obtain ⟨v, rfl, ho⟩ := hyes HYES.out
    rw [HEQ.out] at ho
    obtain ⟨A3, c3, rfl, hc3, hC3⟩ := Kd.R_reads ho
    have HB3 := Aside0.mk (below_step HB2.out hb)
    have HBE := Aside0.mk (P.bytes_Equal.calls A3 c3 r A c r true w3 hC3 hc3 (Kd.C_below HC.out HB3.out) HLR.out (by rw [equal_is r r HBY.out HBY.out, decide_eq_true rfl]))
    clear hyes hb ho hC3
    go_wp2_with (go_at_call 17; refine HBE.out.mono ?_; rintro e w4 ⟨rfl, hd⟩; have HB4 := Aside0.mk (below_step HB3.out hd.below); clear hd)
    go_returns
    exact ⟨rfl, HB4.out⟩
end

end Go.Proofs.Ytngjaaldidmgjaa.G
