/- How arguments are opened: what can be read as data of a type reads as a value of that type's kind. No program's text is spoken of. -/
import Derived.Test.YtngjaaldidmgjaaMA
import Derived.Test.YtngjaaldidmgjaaWArr
import Derived.ProofKit
import Derived.OpenShut
namespace Go.Proofs.Ytngjaaldidmgjaa.G
open Go.RowKit Go.Proofs.YtngjaaldidmgjaaW.PrintWords Go.Proofs.YtngjaaldidmgjaaW.PrintLast Go.Proofs.YtngjaaldidmgjaaW.PrintMore
open Go.ChangeShapes Go.WideShapes
set_option linter.unusedVariables false
set_option linter.unusedSimpArgs false

/-- What can be read as data of type t reads by the kind d, and is well formed. -/
structure Opens (P : Program) (t : TypeId) {α : Type} (d : Kd α) (wf : α → Prop) : Prop where
  sz : d.sz = P.cellsOf t
  open_ : ∀ {H : Type} {enc : TypeId × Value → H} {w : World} {base : Nat} {spare : Nat → Bool} {held : Bool} {fuel : Nat} {cs : List Value} {y : DataW H × List MemPlace},
    DataW.trod enc P w base spare held fuel t cs = some y → ∃ x, d.K w x cs ∧ wf x

theorem list_choice {α : Type} {p : Nat → α → Prop} : ∀ n, (∀ i, i < n → ∃ x, p i x) → ∃ xs : List α, xs.length = n ∧ ∀ i x, xs[i]? = some x → p i x
  | 0, _ => ⟨[], rfl, fun i x h => by simp at h⟩
  | n + 1, h => by
    obtain ⟨xs, hl, hx⟩ := list_choice n (fun i hi => h i (by omega))
    obtain ⟨x, hp⟩ := h n (by omega)
    refine ⟨xs ++ [x], by simp [hl], fun i y hy => ?_⟩
    rw [List.getElem?_append] at hy
    split at hy
    · exact hx i y hy
    · have : i - xs.length = 0 := by
        rcases Nat.eq_zero_or_pos (i - xs.length) with h0 | h0
        · exact h0
        · rw [List.getElem?_eq_none (by simp; omega)] at hy
          cases hy
      rw [this] at hy
      simp at hy
      subst hy
      have : i = n := by omega
      subst this
      exact hp

theorem mapM_get {α β : Type} (f : α → Option β) : ∀ (l : List α) (r : List β), l.mapM f = some r → r.length = l.length ∧ ∀ (i : Nat) (b : β), r[i]? = some b → ∃ a, l[i]? = some a ∧ f a = some b
  | [], r, h => by
    simp at h
    subst h
    exact ⟨rfl, fun i b hb => by simp at hb⟩
  | a :: l, r, h => by
    rw [List.mapM_cons] at h
    simp only [Option.bind_eq_bind, Option.bind_eq_some_iff, Option.pure_def, Option.some.injEq] at h
    obtain ⟨b0, hb0, r', hr', rfl⟩ := h
    obtain ⟨hl, hg⟩ := mapM_get f l r' hr'
    refine ⟨by simp [hl], fun i b hb => ?_⟩
    cases i with
    | zero => simp at hb; subst hb; exact ⟨a, rfl, hb0⟩
    | succ i => simpa using hg i b (by simpa using hb)

theorem cells_get {w : World} {base : Nat} {a : Addr} {n : Nat} {cs : List Value} (h : w.cells? base a n = some cs) : cs.length = n ∧ ∀ i u, cs[i]? = some u → w.cell? (a.add i) = some u := by
  unfold World.cells? at h
  split at h
  · obtain ⟨hl, hg⟩ := mapM_get _ _ _ h
    refine ⟨by simpa using hl, fun i u hu => ?_⟩
    obtain ⟨j, hj, hf⟩ := hg i u hu
    obtain ⟨hlt, hj⟩ := List.getElem?_eq_some_iff.1 hj
    simp at hj
    subst hj
    exact hf
  · cases h
theorem add_add (a : Addr) (i j : Nat) : (a.add i).add j = a.add (i + j) := by
  unfold Addr.add
  by_cases h1 : i = 0
  · subst h1; simp
  · by_cases h2 : j = 0
    · subst h2; simp [h1]
    · have h3 : ¬ (i + j = 0) := by omega
      simp [h1, h2, Nat.add_assoc]

section
variable {P : Program} {t e : TypeId} {α β : Type} {d : Kd α} {d2 : Kd β} {wf : α → Prop} {wf2 : β → Prop}

theorem Opens.int {k : IntKind} (hu : P.underlying t = some (.int k)) (hs : P.cellsOf t = 1) : Opens P t (Kd.int k) (fun x => (Lit.int k x).wf = true) :=
  ⟨by rw [hs]; rfl, fun h => by
    obtain ⟨n, rfl, _, hw⟩ := DataW.trod_int hu h
    exact ⟨n, rfl, hw⟩⟩
theorem Opens.bool (hu : P.underlying t = some .bool) (hs : P.cellsOf t = 1) : Opens P t Kd.bool (fun _ => True) :=
  ⟨by rw [hs]; rfl, fun h => by
    obtain ⟨b, rfl, _⟩ := DataW.trod_bool hu h
    exact ⟨b, rfl, trivial⟩⟩
theorem Opens.slice (hu : P.underlying t = some (.slice e)) (hs : P.cellsOf t = 1) (hd : Opens P e d wf) : Opens P t (Kd.slice e d) (fun xs => ∀ x ∈ xs, wf x) :=
  ⟨by rw [hs]; rfl, fun {H enc w base spare held fuel cs y} h => by
    rcases DataW.trod_slice hu h with ⟨rfl, _⟩ | ⟨a, len, cap, elems, rest, n, _, rfl, _, _, hlc, hcm, hel, hg, _, _⟩
    · exact ⟨[], ⟨none, 0, rfl, Nat.le_refl _, Kd.C_nil d w⟩, fun x hx => by simp at hx⟩
    · have hx : ∀ i, i < len → ∃ x, (∃ c, c.length = d.sz ∧ d.K w x c ∧ ∀ j u, c[j]? = some u → w.cell? (a.add (i * d.sz + j)) = some u) ∧ wf x := fun i hi => by
        have h1 := hg i hi
        rw [List.getElem?_eq_getElem (by omega)] at h1
        obtain ⟨ci, hc, ht⟩ := Option.bind_eq_some_iff.1 h1
        obtain ⟨x, hk, hw⟩ := hd.open_ ht
        obtain ⟨hl, hcell⟩ := cells_get hc
        refine ⟨x, ⟨ci, by rw [hd.sz]; exact hl, hk, fun j u hu => ?_⟩, hw⟩
        rw [hd.sz, ← add_add]
        exact hcell j u hu
      obtain ⟨xs, hxl, hxs⟩ := list_choice len hx
      have hmax : len ≤ 9223372036854775807 := by unfold maxLen at hcm; omega
      refine ⟨xs, ⟨some a, cap, by rw [hxl], by omega, ⟨rfl, by omega, fun _ => ⟨a, rfl, fun j p hp => ?_⟩⟩⟩, fun x hx => ?_⟩
      · exact (hxs j p hp).1
      · obtain ⟨i, hi, rfl⟩ := List.getElem_of_mem hx
        exact (hxs i _ (List.getElem?_eq_getElem hi)).2⟩
theorem Opens.iso (f : β → α) (g : α → β) (hfg : ∀ x, f (g x) = x) (hd : Opens P t d wf) : Opens P t (Kd.iso d f) (fun x => wf (f x)) :=
  ⟨hd.sz, fun h => by
    obtain ⟨x, hk, hw⟩ := hd.open_ h
    exact ⟨g x, by show d.K _ (f (g x)) _; rw [hfg]; exact hk, by rw [hfg]; exact hw⟩⟩

/-- Fields, from a place on. -/
def OpensFs (P : Program) (fs : List Field) (o : Nat) {α : Type} (d : Kd α) (wf : α → Prop) : Prop :=
  ∀ {H : Type} {enc : TypeId × Value → H} {w : World} {base : Nat} {spare : Nat → Bool} {held : Bool} {m : Nat} {cs : List Value} {xs : List (DataW H × List MemPlace)},
    (∀ (i : Nat) (f : Field), fs[i]? = some f → DataW.trod enc P w base spare held m f.type ((cs.drop f.offset).take (P.cellsOf f.type)) = xs[i]?) → xs.length = fs.length → cs.length = o + d.sz → ∃ x, d.K w x (cs.drop o) ∧ wf x
theorem OpensFs.last {f : Field} {o : Nat} (hd : Opens P f.type d wf) (ho : f.offset = o) : OpensFs P [f] o d wf := by
  intro H enc w base spare held m cs xs hx hl hc
  have h0 := hx 0 f rfl
  rw [List.getElem?_eq_getElem (by rw [hl]; simp)] at h0
  obtain ⟨x, hk, hw⟩ := hd.open_ h0
  refine ⟨x, ?_, hw⟩
  rw [ho, ← hd.sz, List.take_of_length_le (by rw [List.length_drop]; omega)] at hk
  exact hk
theorem OpensFs.cons {f : Field} {fs : List Field} {o o2 : Nat} (hd : Opens P f.type d wf) (ho : f.offset = o) (hr : OpensFs P fs o2 d2 wf2) (ho2 : o2 = o + d.sz) : OpensFs P (f :: fs) o (Kd.pair d d2) (fun x => wf x.1 ∧ wf2 x.2) := by
  intro H enc w base spare held m cs xs hx hl hc
  have h0 := hx 0 f rfl
  rw [List.getElem?_eq_getElem (by rw [hl]; simp)] at h0
  obtain ⟨x, hk, hw⟩ := hd.open_ h0
  rw [ho, ← hd.sz] at hk
  subst ho2
  have hsz : (Kd.pair d d2).sz = d.sz + d2.sz := rfl
  obtain ⟨x2, hk2, hw2⟩ := hr (xs := xs.tail) (cs := cs) (fun i g hg => by rw [List.getElem?_tail]; exact hx (i + 1) g (by simpa using hg)) (by simp [hl]) (by omega)
  refine ⟨(x, x2), ⟨_, _, ?_, hk, hk2⟩, hw, hw2⟩
  rw [← List.drop_drop, List.take_append_drop]
theorem Opens.struct {fs : Array Field} (hu : P.underlying t = some (.struct fs)) (hs : d.sz = P.cellsOf t) (hf : OpensFs P fs.toList 0 d wf) : Opens P t d wf :=
  ⟨hs, fun h => by
    obtain ⟨xs, n, _, _, hl, hlen, hg⟩ := DataW.trod_struct hu h
    obtain ⟨x, hk, hw⟩ := hf (xs := xs) (fun i f hi => hg i f (by simpa using hi)) (by simpa using hlen) (by omega)
    exact ⟨x, by simpa using hk, hw⟩⟩
/-- A slice that came in. -/
theorem open_slice_kd {H : Type} {enc : TypeId × Value → H} {w : World} {base b0 : Nat} {spare : Nat → Bool} {held : Bool} {r : Reach} {v : Value} {y : DataW H} {ps : List MemPlace}
    (hu : P.underlying t = some (.slice e)) (hd : Opens P t (Kd.slice e d) (fun xs => ∀ x ∈ xs, wf x)) (hv : Value.okWide P w r b0 t v) (h : DataW.Trod enc P w base spare held t v y ps) :
    ∃ A c xs, v = .slice A xs.length c ∧ xs.length ≤ c ∧ d.C w A xs.length xs ∧ ∀ x ∈ xs, wf x := by
  obtain ⟨a, len, cap, rfl⟩ := okWide_slice hu hv
  obtain ⟨fuel, hf⟩ := h
  obtain ⟨xs, ⟨A, c, hcs, hl, hC⟩, hw⟩ := hd.open_ hf
  simp [Value.cells] at hcs
  obtain ⟨rfl, rfl, rfl⟩ := hcs
  exact ⟨a, cap, xs, rfl, hl, hC, hw⟩
end
end Go.Proofs.Ytngjaaldidmgjaa.G
