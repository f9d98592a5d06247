/- What is laid: how long, and its range: plain. -/
import Derived.Test.YtngjaaldidmgjaaD7
namespace Go.Proofs.Ytngjaaldidmgjaa.G
open Go.Shelf Go.RowKit Go.Proofs.YtngjaaldidmgjaaW.PrintWords Go.Proofs.YtngjaaldidmgjaaW.PrintLast Go.Proofs.YtngjaaldidmgjaaW.PrintMore
set_option linter.unusedVariables false
set_option linter.unusedSimpArgs false

theorem numB_range (x : Int) : ∀ c ∈ numB x, 0 ≤ c ∧ c ≤ 255 := putBytes_range 4 _
theorem vecB_range (v : List Int) : ∀ c ∈ vecB v, 0 ≤ c ∧ c ≤ 255 := by
  intro c hc
  rw [vecB, List.mem_cons] at hc
  rcases hc with rfl | hc
  · omega
  · unfold vecT at hc
    rw [List.mem_flatten] at hc
    obtain ⟨l, hl, hx⟩ := hc
    rw [List.mem_map] at hl
    obtain ⟨x, _, rfl⟩ := hl
    exact numB_range x c hx
theorem put8_len (x : Int) : (putBytes 8 x).length = 8 := by rw [putBytes_length]; decide
theorem rowB_range (id : Int) (v : List Int) : ∀ c ∈ rowB id v, 0 ≤ c ∧ c ≤ 255 := by
  intro c hc
  rw [rowB, List.mem_append] at hc
  rcases hc with h | h
  · exact putBytes_range 8 _ c h
  · exact vecB_range v c h
theorem rowB_len (id : Int) (v : List Int) : (rowB id v).length = 9 + 4 * v.length := by rw [rowB, List.length_append, put8_len, vecB_len]; omega
theorem verB_range (b e : Int) (v : List Int) : ∀ c ∈ verB b e v, 0 ≤ c ∧ c ≤ 255 := by
  intro c hc
  rw [verB, List.mem_append, List.mem_append] at hc
  rcases hc with (h | h) | h
  · exact putBytes_range 8 _ c h
  · exact putBytes_range 8 _ c h
  · exact vecB_range v c h
theorem verB_len (b e : Int) (v : List Int) : (verB b e v).length = 17 + 4 * v.length := by rw [verB, List.length_append, List.length_append, put8_len, put8_len, vecB_len]; omega
theorem wf_u64 {x : Int} (h : (Lit.int .u64 x).wf = true) : 0 ≤ x ∧ x ≤ 18446744073709551615 := by simpa [Lit.wf, IntKind.min, IntKind.max, IntKind.signed, IntKind.bits] using h

end Go.Proofs.Ytngjaaldidmgjaa.G
