/- Rows and versions as arguments. -/
import Derived.Test.YtngjaaldidmgjaaB7a
namespace Go.Proofs.Ytngjaaldidmgjaa.G
open Go.Shelf Go.RowKit Go.Proofs.YtngjaaldidmgjaaW.PrintWords Go.Proofs.YtngjaaldidmgjaaW.PrintLast Go.Proofs.YtngjaaldidmgjaaW.PrintMore
set_option linter.unusedVariables false
set_option linter.unusedSimpArgs false

abbrev kRow := Kd.pair (Kd.int .u64) (Kd.slice 21 (Kd.int .i32))
abbrev kVer := Kd.pair (Kd.int .u64) (Kd.pair (Kd.int .u64) (Kd.slice 21 (Kd.int .i32)))
abbrev wRow (x : Int × List Int) : Prop := (Lit.int .u64 x.1).wf = true ∧ ∀ y ∈ x.2, (Lit.int .i32 y).wf = true
abbrev wVer (x : Int × Int × List Int) : Prop := (Lit.int .u64 x.1).wf = true ∧ (Lit.int .u64 x.2.1).wf = true ∧ ∀ y ∈ x.2.2, (Lit.int .i32 y).wf = true
theorem kRow_cells {W : World} {x : Int × List Int} {cs : List Value} (hK : kRow.K W x cs) : ∃ A c, cs = [.int .u64 x.1, .slice A x.2.length c] ∧ x.2.length ≤ c ∧ Kd.C (Kd.int .i32) W A x.2.length x.2 := by
  obtain ⟨c0, c1, hcs, h0, A, c, h1, hlc, hC⟩ := hK
  have h0' : c0 = [.int .u64 x.1] := h0
  exact ⟨A, c, by rw [hcs, h0', h1]; rfl, hlc, hC⟩
theorem kVer_cells {W : World} {x : Int × Int × List Int} {cs : List Value} (hK : kVer.K W x cs) : ∃ A c, cs = [.int .u64 x.1, .int .u64 x.2.1, .slice A x.2.2.length c] ∧ x.2.2.length ≤ c ∧ Kd.C (Kd.int .i32) W A x.2.2.length x.2.2 := by
  obtain ⟨c0, c1, hcs, h0, c2, c3, hcs2, h1, A, c, h2, hlc, hC⟩ := hK
  have h0' : c0 = [.int .u64 x.1] := h0
  have h1' : c2 = [.int .u64 x.2.1] := h1
  exact ⟨A, c, by rw [hcs, h0', hcs2, h1', h2]; rfl, hlc, hC⟩
theorem kRow_open {W : World} {x : Int × List Int} {cs : Array Value} (hK : kRow.K W x cs.toList) : ∃ A c, cs = #[.int .u64 x.1, .slice A x.2.length c] ∧ x.2.length ≤ c ∧ Kd.C (Kd.int .i32) W A x.2.length x.2 := by
  obtain ⟨A, c, h, hl, hC⟩ := kRow_cells hK
  exact ⟨A, c, Array.toList_inj.1 h, hl, hC⟩
theorem kVer_open {W : World} {x : Int × Int × List Int} {cs : Array Value} (hK : kVer.K W x cs.toList) : ∃ A c, cs = #[.int .u64 x.1, .int .u64 x.2.1, .slice A x.2.2.length c] ∧ x.2.2.length ≤ c ∧ Kd.C (Kd.int .i32) W A x.2.2.length x.2.2 := by
  obtain ⟨A, c, h, hl, hC⟩ := kVer_cells hK
  exact ⟨A, c, Array.toList_inj.1 h, hl, hC⟩

end Go.Proofs.Ytngjaaldidmgjaa.G
