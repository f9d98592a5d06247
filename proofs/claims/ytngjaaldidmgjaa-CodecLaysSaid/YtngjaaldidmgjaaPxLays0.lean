/- Written by a program for this claim. -/
import Derived.Test.YtngjaaldidmgjaaPx0
import Derived.Test.YtngjaaldidmgjaaPx1
import Derived.Test.YtngjaaldidmgjaaPx2
import Derived.Test.YtngjaaldidmgjaaPx3
import Derived.Test.YtngjaaldidmgjaaPx6
import Derived.Test.YtngjaaldidmgjaaC1
import Derived.Test.YtngjaaldidmgjaaC2
namespace Go.Proofs.Ytngjaaldidmgjaa.P
open Go.RowKit Go.Proofs.YtngjaaldidmgjaaW.PrintWords Go.Proofs.YtngjaaldidmgjaaW.PrintLast Go.Proofs.YtngjaaldidmgjaaW.PrintMore
attribute [local go_sem] max2_int min2_int max_two min_two max_three min_three max_four min_four   -- for this text's walks alone
set_option linter.unusedVariables false
set_option linter.unusedSimpArgs false

/-! ### lawLays: function 7 -/
mutual
def lawLays.j0 : Nat → Bool → Int → List Int → Int → Int → List Int → Int → Int → List Int → Option (Bool)
  | 0, _, _, _, _, _, _, _, _, _ => none
  | k + 1, x32, x281000, x281001, x282000, x282001, x282002, x283000, x283001, x283002 => if x32 = true then (some true) else ((G.codec_Vec.f x281001).bind fun bt284 => ((G.codec_Row.f x281000 x281001).bind fun bt288 => ((G.codec_Version.f x282000 x282001 x282002).bind fun bt292 => ((codec_CheckRow.f x281000 x281001).bind fun t296 => ((codec_CheckVersion.f x282000 x282001 x282002).bind fun t297 => ((G.codec_SameVersion.f x282000 x282001 x282002 x283000 x283001 x283002).bind fun t298 => ((quiverref07_SameVersion.f k x282000 x282001 x282002 x283000 x283001 x283002).bind fun t299 => (if (t298 != t299) = true then (lawLays.j1 k bt284.1 bt284.2 bt288.1 bt288.2 bt292.1 bt292.2 t296 t297 true x281000 x281001 x282000 x282001 x282002) else ((G.codec_SameVersion.f x282000 x282001 x282002 x282000 x282001 x282002).bind fun t300 => (if t300 = true then ((codec_SameRow.f k x281000 x281001 x281000 x281001).bind fun t301 => (if t301 = true then ((codec_SameRow.f k x281000 x281001 x281000 x282002).bind fun t302 => ((quiverref05_Same.f k x281001 x282002).bind fun t303 => (lawLays.j1 k bt284.1 bt284.2 bt288.1 bt288.2 bt292.1 bt292.2 t296 t297 (t302 != t303) x281000 x281001 x282000 x282001 x282002))) else (lawLays.j1 k bt284.1 bt284.2 bt288.1 bt288.2 bt292.1 bt292.2 t296 t297 true x281000 x281001 x282000 x282001 x282002))) else (lawLays.j1 k bt284.1 bt284.2 bt288.1 bt288.2 bt292.1 bt292.2 t296 t297 true x281000 x281001 x282000 x282001 x282002)))))))))))
def lawLays.j1 : Nat → List Int → Int → List Int → Int → List Int → Int → Int → Int → Bool → Int → List Int → Int → Int → List Int → Option (Bool)
  | 0, _, _, _, _, _, _, _, _, _, _, _, _, _, _ => none
  | k + 1, x7, x8, x9, x10, x11, x12, x13, x14, x86, x281000, x281001, x282000, x282001, x282002 => if x86 = true then (some false) else ((quiverref05_Right.f k x281001).bind fun t304 => (if t304 = true then (if x8 = 0 then (if x10 = 0 then (if x13 = 0 then ((quiverref07_Vec.f k x281001).bind fun t305 => ((quiverref07_SameBytes.f k x7 t305).bind fun t308 => (if t308 = true then ((quiverref07_Row.f k x281000 x281001).bind fun t309 => ((quiverref07_SameBytes.f k x9 t309).bind fun t312 => (if t312 = true then (lawLays.j2 k x11 x12 x14 x282000 x282001 x282002) else (some false)))) else (some false)))) else (some false)) else (some false)) else (some false)) else (if (x7.length : Int) = 0 then (if x8 = 150 then (if (x9.length : Int) = 0 then (if x10 = 170 then (if x13 = 170 then (lawLays.j2 k x11 x12 x14 x282000 x282001 x282002) else (some false)) else (some false)) else (some false)) else (some false)) else (some false))))
def lawLays.j2 : Nat → List Int → Int → Int → Int → Int → List Int → Option (Bool)
  | 0, _, _, _, _, _, _ => none
  | k + 1, x11, x12, x14, x282000, x282001, x282002 => (quiverref07_RightVersion.f k x282000 x282001 x282002).bind fun t313 => (if t313 = true then (if x12 = 0 then (if x14 = 0 then ((quiverref07_Version.f k x282000 x282001 x282002).bind fun t314 => ((quiverref07_SameBytes.f k x11 t314).bind fun t317 => (some t317))) else (some false)) else (some false)) else (if (x11.length : Int) = 0 then (if x12 = 171 then (some (x14 == 171)) else (some false)) else (some false)))
end
def lawLays.f (k : Nat) (a0_0 : Int) (l0_1 : List Int) (a1_0 : Int) (a1_1 : Int) (l1_2 : List Int) (a2_0 : Int) (a2_1 : Int) (l2_2 : List Int) : Option (Bool) := (quiverlaw07_wakes.f).bind fun t283 => (if t283 = true then (if (l0_1.length : Int) > 100 then (lawLays.j0 k true a0_0 l0_1 a1_0 a1_1 l1_2 a2_0 a2_1 l2_2) else (if (l1_2.length : Int) > 100 then (lawLays.j0 k true a0_0 l0_1 a1_0 a1_1 l1_2 a2_0 a2_1 l2_2) else (lawLays.j0 k (decide ((l2_2.length : Int) > 100)) a0_0 l0_1 a1_0 a1_1 l1_2 a2_0 a2_1 l2_2))) else (some false))
end Go.Proofs.Ytngjaaldidmgjaa.P
