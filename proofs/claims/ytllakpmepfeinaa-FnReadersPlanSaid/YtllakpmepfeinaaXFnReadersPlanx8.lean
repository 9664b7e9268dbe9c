-- Written by a program of this session: the machine side of the law FnReadersPlan, with contracts proved by hand for what the kit's print doesn't take. Lean checks it.
import Derived.Test.YtllakpmepfeinaaXFnReadersPlanx0
import Derived.Test.YtllakpmepfeinaaXFnReadersPlanx1
import Derived.Test.YtllakpmepfeinaaXFnReadersPlanx2
import Derived.Test.YtllakpmepfeinaaXFnReadersPlanx3
import Derived.Test.YtllakpmepfeinaaXFnReadersPlanx4
import Derived.Test.YtllakpmepfeinaaXFnReadersPlanx5
import Derived.Test.YtllakpmepfeinaaXFnReadersPlanx6
import Derived.Test.YtllakpmepfeinaaXFnReadersPlanx7
namespace Go.Proofs.Ytllakpmepfeinaa.XFnReadersPlan
open Go.RowKit Go.Proofs.YtllakpmepfeinaaW.PrintWords Go.Proofs.YtllakpmepfeinaaW.PrintLast Go.Proofs.YtllakpmepfeinaaW.PrintMore
attribute [local go_sem] max2_int min2_int max_two min_two max_three min_three max_four min_four   -- for this text's walks alone
set_option linter.unusedVariables false
set_option linter.unusedSimpArgs false

/-! ### laws_FnReadersPlan: function 3 -/
mutual
def laws_FnReadersPlan.j0 : Nat → List Int → Int → Int → Int → List Int → Bool → Int → Bool → Bool → Option (Bool)
  | 0, _, _, _, _, _, _, _, _, _ => none
  | k + 1, x1, x5, x6, x7, x8, x9, x12, x13, x124 => if x124 = true then (some false) else (if x9 = true then (if (x8.length : Int) = x7 then ((laws_xSum.f k x8).bind fun t453 => (laws_FnReadersPlan.j1 k x1 x8 x12 x13 (t453 != (wrap64 (x5 - x6))))) else (laws_FnReadersPlan.j1 k x1 x8 x12 x13 true)) else (laws_FnReadersPlan.j3 k x1))
def laws_FnReadersPlan.j3 : Nat → List Int → Option (Bool)
  | 0, _ => none
  | k + 1, x1 => (spec_DrawRisingPlan.f x1).bind fun bt462 => ((impl_RisingPlan.f k bt462.1 bt462.2.1 bt462.2.2).bind fun bt465 => ((spec_RisingPlan.f k bt462.1 bt462.2.1 bt462.2.2).bind fun bt469 => ((spec_DrawFirstForRising.f x1).bind fun bt473 => ((impl_FirstForRising.f k bt473.1 bt473.2.1 bt473.2.2).bind fun bt476 => ((spec_FirstForRising.f k bt473.1 bt473.2.1 bt473.2.2).bind fun bt478 => ((spec_DrawPartPlan.f x1).bind fun bt480 => ((impl_PartPlan.f k bt480.1 bt480.2.1 bt480.2.2).bind fun bt483 => ((spec_PartPlan.f k bt480.1 bt480.2.1 bt480.2.2).bind fun bt487 => ((impl_DaysOfParts.f k bt480.1 bt480.2.1 bt480.2.2).bind fun bt491 => ((spec_DaysOfParts.f k bt480.1 bt480.2.1 bt480.2.2).bind fun bt493 => ((spec_DrawAfterParts.f k x1).bind fun bt495 => ((impl_AfterParts.f k bt495.1 bt495.2.1 bt495.2.2).bind fun bt502 => ((spec_AfterParts.f k bt495.1 bt495.2.1 bt495.2.2).bind fun bt504 => (if (bt465.2 != bt469.2) = true then (laws_FnReadersPlan.j4 k bt462.1 bt462.2.1 bt462.2.2 bt465.1 bt465.2 bt473.1 bt473.2.1 bt473.2.2 bt476.1 bt476.2 bt480.1 bt480.2.1 bt480.2.2 bt483.1 bt483.2 bt491.1 bt495.1 bt495.2.1 bt495.2.2 bt502.1 bt502.2 true) else ((laws_xSame.f k bt465.1 bt469.1).bind fun t506 => (if t506 = true then (if (bt476.2 != bt478.2) = true then (laws_FnReadersPlan.j4 k bt462.1 bt462.2.1 bt462.2.2 bt465.1 bt465.2 bt473.1 bt473.2.1 bt473.2.2 bt476.1 bt476.2 bt480.1 bt480.2.1 bt480.2.2 bt483.1 bt483.2 bt491.1 bt495.1 bt495.2.1 bt495.2.2 bt502.1 bt502.2 true) else (if bt476.1 = bt478.1 then (if (bt483.2 != bt487.2) = true then (laws_FnReadersPlan.j4 k bt462.1 bt462.2.1 bt462.2.2 bt465.1 bt465.2 bt473.1 bt473.2.1 bt473.2.2 bt476.1 bt476.2 bt480.1 bt480.2.1 bt480.2.2 bt483.1 bt483.2 bt491.1 bt495.1 bt495.2.1 bt495.2.2 bt502.1 bt502.2 true) else ((laws_xSame.f k bt483.1 bt487.1).bind fun t507 => (if t507 = true then (if (bt491.2 != bt493.2) = true then (laws_FnReadersPlan.j4 k bt462.1 bt462.2.1 bt462.2.2 bt465.1 bt465.2 bt473.1 bt473.2.1 bt473.2.2 bt476.1 bt476.2 bt480.1 bt480.2.1 bt480.2.2 bt483.1 bt483.2 bt491.1 bt495.1 bt495.2.1 bt495.2.2 bt502.1 bt502.2 true) else (if bt491.1 = bt493.1 then (if (bt502.2 != bt504.2) = true then (laws_FnReadersPlan.j4 k bt462.1 bt462.2.1 bt462.2.2 bt465.1 bt465.2 bt473.1 bt473.2.1 bt473.2.2 bt476.1 bt476.2 bt480.1 bt480.2.1 bt480.2.2 bt483.1 bt483.2 bt491.1 bt495.1 bt495.2.1 bt495.2.2 bt502.1 bt502.2 true) else (if bt502.1 = bt504.1 then (laws_FnReadersPlan.j4 k bt462.1 bt462.2.1 bt462.2.2 bt465.1 bt465.2 bt473.1 bt473.2.1 bt473.2.2 bt476.1 bt476.2 bt480.1 bt480.2.1 bt480.2.2 bt483.1 bt483.2 bt491.1 bt495.1 bt495.2.1 bt495.2.2 bt502.1 bt502.2 (bt491.2 != bt483.2)) else (laws_FnReadersPlan.j4 k bt462.1 bt462.2.1 bt462.2.2 bt465.1 bt465.2 bt473.1 bt473.2.1 bt473.2.2 bt476.1 bt476.2 bt480.1 bt480.2.1 bt480.2.2 bt483.1 bt483.2 bt491.1 bt495.1 bt495.2.1 bt495.2.2 bt502.1 bt502.2 true))) else (laws_FnReadersPlan.j4 k bt462.1 bt462.2.1 bt462.2.2 bt465.1 bt465.2 bt473.1 bt473.2.1 bt473.2.2 bt476.1 bt476.2 bt480.1 bt480.2.1 bt480.2.2 bt483.1 bt483.2 bt491.1 bt495.1 bt495.2.1 bt495.2.2 bt502.1 bt502.2 true))) else (laws_FnReadersPlan.j4 k bt462.1 bt462.2.1 bt462.2.2 bt465.1 bt465.2 bt473.1 bt473.2.1 bt473.2.2 bt476.1 bt476.2 bt480.1 bt480.2.1 bt480.2.2 bt483.1 bt483.2 bt491.1 bt495.1 bt495.2.1 bt495.2.2 bt502.1 bt502.2 true)))) else (laws_FnReadersPlan.j4 k bt462.1 bt462.2.1 bt462.2.2 bt465.1 bt465.2 bt473.1 bt473.2.1 bt473.2.2 bt476.1 bt476.2 bt480.1 bt480.2.1 bt480.2.2 bt483.1 bt483.2 bt491.1 bt495.1 bt495.2.1 bt495.2.2 bt502.1 bt502.2 true))) else (laws_FnReadersPlan.j4 k bt462.1 bt462.2.1 bt462.2.2 bt465.1 bt465.2 bt473.1 bt473.2.1 bt473.2.2 bt476.1 bt476.2 bt480.1 bt480.2.1 bt480.2.2 bt483.1 bt483.2 bt491.1 bt495.1 bt495.2.1 bt495.2.2 bt502.1 bt502.2 true)))))))))))))))))
def laws_FnReadersPlan.j4 : Nat → Int → Int → Int → List Int → Bool → Int → Int → Int → Int → Bool → Int → Int → Int → List Int → Bool → Int → Int → List (List Int) → List Int → Int → Bool → Bool → Option (Bool)
  | 0, _, _, _, _, _, _, _, _, _, _, _, _, _, _, _, _, _, _, _, _, _, _ => none
  | k + 1, x18, x19, x20, x21, x22, x25, x26, x27, x28, x29, x32, x33, x34, x35, x36, x39, x43, x44, x45, x46, x47, x359 => if x359 = true then (some false) else (if x22 = true then ((laws_xSum.f k x21).bind fun t508 => (if t508 = x18 then (laws_FnReadersPlan.j5 k x19 x20 x21 x25 x26 x27 x28 x29 x32 x33 x34 x35 x36 x39 x43 x44 x45 x46 x47 (decide ((x21.length : Int) < 1))) else (laws_FnReadersPlan.j5 k x19 x20 x21 x25 x26 x27 x28 x29 x32 x33 x34 x35 x36 x39 x43 x44 x45 x46 x47 true))) else (laws_FnReadersPlan.j7 k x25 x26 x27 x28 x29 x32 x33 x34 x35 x36 x39 x43 x44 x45 x46 x47))
def laws_FnReadersPlan.j7 : Nat → Int → Int → Int → Int → Bool → Int → Int → Int → List Int → Bool → Int → Int → List (List Int) → List Int → Int → Bool → Option (Bool)
  | 0, _, _, _, _, _, _, _, _, _, _, _, _, _, _, _, _ => none
  | k + 1, x25, x26, x27, x28, x29, x32, x33, x34, x35, x36, x39, x43, x44, x45, x46, x47 => if x29 = true then ((impl_RisingPlan.f k x25 x28 x27).bind fun bt510 => (if bt510.2 = true then (laws_FnReadersPlan.j8 k x25 x26 x27 x28 x32 x33 x34 x35 x36 x39 x43 x44 x45 x46 x47 (decide ((bt510.1.length : Int) > x26))) else (laws_FnReadersPlan.j8 k x25 x26 x27 x28 x32 x33 x34 x35 x36 x39 x43 x44 x45 x46 x47 true))) else (laws_FnReadersPlan.j9 k x32 x33 x34 x35 x36 x39 x43 x44 x45 x46 x47)
def laws_FnReadersPlan.j9 : Nat → Int → Int → Int → List Int → Bool → Int → Int → List (List Int) → List Int → Int → Bool → Option (Bool)
  | 0, _, _, _, _, _, _, _, _, _, _, _ => none
  | k + 1, x32, x33, x34, x35, x36, x39, x43, x44, x45, x46, x47 => if x36 = true then (if (x35.length : Int) = x39 then ((laws_xSum.f k x35).bind fun t518 => (if t518 = x32 then (if 0 ≤ (wrap64 ((x35.length : Int) - 1)) then (if (wrap64 ((x35.length : Int) - 1)) < (x35.length : Int) then (laws_FnReadersPlan.j10 k x32 x33 x34 x35 x43 x44 x45 x46 x47 (decide ((rd x35 (wrap64 ((x35.length : Int) - 1))) < 1))) else (none)) else (none)) else (laws_FnReadersPlan.j10 k x32 x33 x34 x35 x43 x44 x45 x46 x47 true))) else (laws_FnReadersPlan.j10 k x32 x33 x34 x35 x43 x44 x45 x46 x47 true)) else (laws_FnReadersPlan.j12 k x43 x44 x45 x46 x47)
def laws_FnReadersPlan.j12 : Nat → Int → List (List Int) → List Int → Int → Bool → Option (Bool)
  | 0, _, _, _, _, _ => none
  | k + 1, x43, x44, x45, x46, x47 => if x47 = true then (laws_FnReadersPlan.l3 k x43 x45 x46 x46 x44 (x44.length : Int) 0) else (some true)
def laws_FnReadersPlan.l3 : Nat → Int → List Int → Int → Int → List (List Int) → Int → Int → Option (Bool)
  | 0, _, _, _, _, _, _, _ => none
  | k + 1, x43, x45, x46, x59, x489, x490, x491 => if x491 < x490 then (if 0 ≤ x491 then (if x491 < (x489.length : Int) then (if 0 < ((rd_L2 x489 x491).length : Int) then (if 1 < ((rd_L2 x489 x491).length : Int) then (if (rd (rd_L2 x489 x491) 1) = 0 then (none) else (if (Int.tmod (wrap64 (x59 * (rd (rd_L2 x489 x491) 0))) (rd (rd_L2 x489 x491) 1)) = 0 then (if x491 < (x45.length : Int) then (laws_FnReadersPlan.l3 k x43 x45 x46 (wrap64 (x59 - (wrap64 ((wrap64 (Int.tdiv (wrap64 (x59 * (rd (rd_L2 x489 x491) 0))) (rd (rd_L2 x489 x491) 1))) + (rd x45 x491))))) x489 x490 (wrap64 (x491 + 1))) else (none)) else (some false))) else (none)) else (none)) else (none)) else (none)) else (if x59 = x43 then (if x46 > 2000 then (some false) else (if x46 < x43 then (some false) else (some true))) else (some false))
def laws_FnReadersPlan.j10 : Nat → Int → Int → Int → List Int → Int → List (List Int) → List Int → Int → Bool → Bool → Option (Bool)
  | 0, _, _, _, _, _, _, _, _, _, _ => none
  | k + 1, x32, x33, x34, x35, x43, x44, x45, x46, x47, x458 => if x458 = true then (some false) else (laws_FnReadersPlan.l2 k x33 x34 x43 x44 x45 x46 x47 x32 x35 (x35.length : Int) 0)
def laws_FnReadersPlan.l2 : Nat → Int → Int → Int → List (List Int) → List Int → Int → Bool → Int → List Int → Int → Int → Option (Bool)
  | 0, _, _, _, _, _, _, _, _, _, _, _ => none
  | k + 1, x33, x34, x43, x44, x45, x46, x47, x56, x460, x461, x462 => if x462 < x461 then (if 0 ≤ x462 then (if x462 < (x460.length : Int) then (if (wrap64 ((rd x460 x462) * x34)) < (wrap64 (x56 * x33)) then (some false) else (if (wrap64 ((wrap64 ((rd x460 x462) - 1)) * x34)) ≥ (wrap64 (x56 * x33)) then (some false) else (laws_FnReadersPlan.l2 k x33 x34 x43 x44 x45 x46 x47 (wrap64 (x56 - (rd x460 x462))) x460 x461 (wrap64 (x462 + 1))))) else (none)) else (none)) else (laws_FnReadersPlan.j12 k x43 x44 x45 x46 x47)
def laws_FnReadersPlan.j8 : Nat → Int → Int → Int → Int → Int → Int → Int → List Int → Bool → Int → Int → List (List Int) → List Int → Int → Bool → Bool → Option (Bool)
  | 0, _, _, _, _, _, _, _, _, _, _, _, _, _, _, _, _ => none
  | k + 1, x25, x26, x27, x28, x32, x33, x34, x35, x36, x39, x43, x44, x45, x46, x47, x420 => if x420 = true then (some false) else (if x28 > 1 then ((impl_RisingPlan.f k x25 (wrap64 (x28 - 1)) x27).bind fun bt514 => (if bt514.2 = true then (if (bt514.1.length : Int) ≤ x26 then (some false) else (laws_FnReadersPlan.j9 k x32 x33 x34 x35 x36 x39 x43 x44 x45 x46 x47)) else (some false))) else (laws_FnReadersPlan.j9 k x32 x33 x34 x35 x36 x39 x43 x44 x45 x46 x47))
def laws_FnReadersPlan.j5 : Nat → Int → Int → List Int → Int → Int → Int → Int → Bool → Int → Int → Int → List Int → Bool → Int → Int → List (List Int) → List Int → Int → Bool → Bool → Option (Bool)
  | 0, _, _, _, _, _, _, _, _, _, _, _, _, _, _, _, _, _, _, _, _ => none
  | k + 1, x19, x20, x21, x25, x26, x27, x28, x29, x32, x33, x34, x35, x36, x39, x43, x44, x45, x46, x47, x369 => if x369 = true then (some false) else (laws_FnReadersPlan.l1 k x19 x20 x21 x25 x26 x27 x28 x29 x32 x33 x34 x35 x36 x39 x43 x44 x45 x46 x47 x21 (x21.length : Int) 0)
def laws_FnReadersPlan.l1 : Nat → Int → Int → List Int → Int → Int → Int → Int → Bool → Int → Int → Int → List Int → Bool → Int → Int → List (List Int) → List Int → Int → Bool → List Int → Int → Int → Option (Bool)
  | 0, _, _, _, _, _, _, _, _, _, _, _, _, _, _, _, _, _, _, _, _, _, _ => none
  | k + 1, x19, x20, x21, x25, x26, x27, x28, x29, x32, x33, x34, x35, x36, x39, x43, x44, x45, x46, x47, x370, x371, x372 => if x372 < x371 then (if 0 ≤ x372 then (if x372 < (x370.length : Int) then (if x372 < (wrap64 ((x21.length : Int) - 1)) then (if (rd x370 x372) = (wrap64 (x19 + (wrap64 (x372 * x20)))) then (if (rd x370 x372) < 1 then (some false) else (if (rd x370 x372) > (wrap64 (x19 + (wrap64 (x372 * x20)))) then (some false) else (laws_FnReadersPlan.l1 k x19 x20 x21 x25 x26 x27 x28 x29 x32 x33 x34 x35 x36 x39 x43 x44 x45 x46 x47 x370 x371 (wrap64 (x372 + 1))))) else (some false)) else (if (rd x370 x372) < 1 then (some false) else (if (rd x370 x372) > (wrap64 (x19 + (wrap64 (x372 * x20)))) then (some false) else (laws_FnReadersPlan.l1 k x19 x20 x21 x25 x26 x27 x28 x29 x32 x33 x34 x35 x36 x39 x43 x44 x45 x46 x47 x370 x371 (wrap64 (x372 + 1)))))) else (none)) else (none)) else (laws_FnReadersPlan.j7 k x25 x26 x27 x28 x29 x32 x33 x34 x35 x36 x39 x43 x44 x45 x46 x47)
def laws_FnReadersPlan.j1 : Nat → List Int → List Int → Int → Bool → Bool → Option (Bool)
  | 0, _, _, _, _, _ => none
  | k + 1, x1, x8, x12, x13, x137 => if x137 = true then (some false) else (laws_FnReadersPlan.l0 k x1 x8 x12 x13 x8 (x8.length : Int) 0)
def laws_FnReadersPlan.l0 : Nat → List Int → List Int → Int → Bool → List Int → Int → Int → Option (Bool)
  | 0, _, _, _, _, _, _, _ => none
  | k + 1, x1, x8, x12, x13, x138, x139, x140 => if x140 < x139 then (if 0 ≤ x140 then (if x140 < (x138.length : Int) then (if (rd x138 x140) < 0 then (some false) else (if 0 < (x8.length : Int) then (if (rd x138 x140) > (rd x8 0) then (some false) else (if (wrap64 ((rd x8 0) - (rd x138 x140))) > 1 then (some false) else (if x140 > 0 then (if 0 ≤ (wrap64 (x140 - 1)) then (if (wrap64 (x140 - 1)) < (x8.length : Int) then (if (rd x8 (wrap64 (x140 - 1))) < (rd x138 x140) then (some false) else (laws_FnReadersPlan.l0 k x1 x8 x12 x13 x138 x139 (wrap64 (x140 + 1)))) else (none)) else (none)) else (laws_FnReadersPlan.l0 k x1 x8 x12 x13 x138 x139 (wrap64 (x140 + 1)))))) else (none))) else (none)) else (none)) else (if x13 = true then (if 0 < (x8.length : Int) then (if x12 < (rd x8 0) then (some false) else (if x12 > (rd x8 0) then (if x12 = 1 then (laws_FnReadersPlan.j3 k x1) else (some false)) else (laws_FnReadersPlan.j3 k x1))) else (none)) else (if 0 < (x8.length : Int) then (if (rd x8 0) ≤ 200 then (if (rd x8 0) > 0 then (some false) else (laws_FnReadersPlan.j3 k x1)) else (laws_FnReadersPlan.j3 k x1)) else (none)))
end
def laws_FnReadersPlan.f (k : Nat) (l0 : List Int) (l1 : List Int) : Option (Bool) := (laws_big.f l0 l1).bind fun t436 => (if t436 = true then (some true) else ((spec_DrawEvenPlan.f l0).bind fun bt437 => ((impl_EvenPlan.f k bt437.1 bt437.2.1 bt437.2.2).bind fun bt440 => ((spec_EvenPlan.f k bt437.1 bt437.2.1 bt437.2.2).bind fun bt444 => ((impl_DailyFor.f bt437.1 bt437.2.1 bt437.2.2).bind fun bt448 => ((spec_DailyFor.f bt437.1 bt437.2.1 bt437.2.2).bind fun bt450 => (if (bt440.2 != bt444.2) = true then (laws_FnReadersPlan.j0 k l1 bt437.1 bt437.2.1 bt437.2.2 bt440.1 bt440.2 bt448.1 bt448.2 true) else ((laws_xSame.f k bt440.1 bt444.1).bind fun t452 => (if t452 = true then (if (bt448.2 != bt450.2) = true then (laws_FnReadersPlan.j0 k l1 bt437.1 bt437.2.1 bt437.2.2 bt440.1 bt440.2 bt448.1 bt448.2 true) else (if bt448.1 = bt450.1 then (if bt448.2 = true then (laws_FnReadersPlan.j0 k l1 bt437.1 bt437.2.1 bt437.2.2 bt440.1 bt440.2 bt448.1 bt448.2 (!bt440.2)) else (laws_FnReadersPlan.j0 k l1 bt437.1 bt437.2.1 bt437.2.2 bt440.1 bt440.2 bt448.1 bt448.2 false)) else (laws_FnReadersPlan.j0 k l1 bt437.1 bt437.2.1 bt437.2.2 bt440.1 bt440.2 bt448.1 bt448.2 true))) else (laws_FnReadersPlan.j0 k l1 bt437.1 bt437.2.1 bt437.2.2 bt440.1 bt440.2 bt448.1 bt448.2 true))))))))))
theorem laws_FnReadersPlan.mono_l : ∀ k, (∀ y0 y1 y2 y3 y4 y5 y6 y7 y8, LeO (laws_FnReadersPlan.j0 k y0 y1 y2 y3 y4 y5 y6 y7 y8) (laws_FnReadersPlan.j0 (k + 1) y0 y1 y2 y3 y4 y5 y6 y7 y8)) ∧ (∀ y0, LeO (laws_FnReadersPlan.j3 k y0) (laws_FnReadersPlan.j3 (k + 1) y0)) ∧ (∀ y0 y1 y2 y3 y4 y5 y6 y7 y8 y9 y10 y11 y12 y13 y14 y15 y16 y17 y18 y19 y20 y21, LeO (laws_FnReadersPlan.j4 k y0 y1 y2 y3 y4 y5 y6 y7 y8 y9 y10 y11 y12 y13 y14 y15 y16 y17 y18 y19 y20 y21) (laws_FnReadersPlan.j4 (k + 1) y0 y1 y2 y3 y4 y5 y6 y7 y8 y9 y10 y11 y12 y13 y14 y15 y16 y17 y18 y19 y20 y21)) ∧ (∀ y0 y1 y2 y3 y4 y5 y6 y7 y8 y9 y10 y11 y12 y13 y14 y15, LeO (laws_FnReadersPlan.j7 k y0 y1 y2 y3 y4 y5 y6 y7 y8 y9 y10 y11 y12 y13 y14 y15) (laws_FnReadersPlan.j7 (k + 1) y0 y1 y2 y3 y4 y5 y6 y7 y8 y9 y10 y11 y12 y13 y14 y15)) ∧ (∀ y0 y1 y2 y3 y4 y5 y6 y7 y8 y9 y10, LeO (laws_FnReadersPlan.j9 k y0 y1 y2 y3 y4 y5 y6 y7 y8 y9 y10) (laws_FnReadersPlan.j9 (k + 1) y0 y1 y2 y3 y4 y5 y6 y7 y8 y9 y10)) ∧ (∀ y0 y1 y2 y3 y4, LeO (laws_FnReadersPlan.j12 k y0 y1 y2 y3 y4) (laws_FnReadersPlan.j12 (k + 1) y0 y1 y2 y3 y4)) ∧ (∀ y0 y1 y2 y3 y4 y5 y6, LeO (laws_FnReadersPlan.l3 k y0 y1 y2 y3 y4 y5 y6) (laws_FnReadersPlan.l3 (k + 1) y0 y1 y2 y3 y4 y5 y6)) ∧ (∀ y0 y1 y2 y3 y4 y5 y6 y7 y8 y9, LeO (laws_FnReadersPlan.j10 k y0 y1 y2 y3 y4 y5 y6 y7 y8 y9) (laws_FnReadersPlan.j10 (k + 1) y0 y1 y2 y3 y4 y5 y6 y7 y8 y9)) ∧ (∀ y0 y1 y2 y3 y4 y5 y6 y7 y8 y9 y10, LeO (laws_FnReadersPlan.l2 k y0 y1 y2 y3 y4 y5 y6 y7 y8 y9 y10) (laws_FnReadersPlan.l2 (k + 1) y0 y1 y2 y3 y4 y5 y6 y7 y8 y9 y10)) ∧ (∀ y0 y1 y2 y3 y4 y5 y6 y7 y8 y9 y10 y11 y12 y13 y14 y15, LeO (laws_FnReadersPlan.j8 k y0 y1 y2 y3 y4 y5 y6 y7 y8 y9 y10 y11 y12 y13 y14 y15) (laws_FnReadersPlan.j8 (k + 1) y0 y1 y2 y3 y4 y5 y6 y7 y8 y9 y10 y11 y12 y13 y14 y15)) ∧ (∀ y0 y1 y2 y3 y4 y5 y6 y7 y8 y9 y10 y11 y12 y13 y14 y15 y16 y17 y18 y19, LeO (laws_FnReadersPlan.j5 k y0 y1 y2 y3 y4 y5 y6 y7 y8 y9 y10 y11 y12 y13 y14 y15 y16 y17 y18 y19) (laws_FnReadersPlan.j5 (k + 1) y0 y1 y2 y3 y4 y5 y6 y7 y8 y9 y10 y11 y12 y13 y14 y15 y16 y17 y18 y19)) ∧ (∀ y0 y1 y2 y3 y4 y5 y6 y7 y8 y9 y10 y11 y12 y13 y14 y15 y16 y17 y18 y19 y20 y21, LeO (laws_FnReadersPlan.l1 k y0 y1 y2 y3 y4 y5 y6 y7 y8 y9 y10 y11 y12 y13 y14 y15 y16 y17 y18 y19 y20 y21) (laws_FnReadersPlan.l1 (k + 1) y0 y1 y2 y3 y4 y5 y6 y7 y8 y9 y10 y11 y12 y13 y14 y15 y16 y17 y18 y19 y20 y21)) ∧ (∀ y0 y1 y2 y3 y4, LeO (laws_FnReadersPlan.j1 k y0 y1 y2 y3 y4) (laws_FnReadersPlan.j1 (k + 1) y0 y1 y2 y3 y4)) ∧ (∀ y0 y1 y2 y3 y4 y5 y6, LeO (laws_FnReadersPlan.l0 k y0 y1 y2 y3 y4 y5 y6) (laws_FnReadersPlan.l0 (k + 1) y0 y1 y2 y3 y4 y5 y6))
  | 0 => ⟨fun _ _ _ _ _ _ _ _ _ r h => by simp [laws_FnReadersPlan.j0] at h, fun _ r h => by simp [laws_FnReadersPlan.j3] at h, fun _ _ _ _ _ _ _ _ _ _ _ _ _ _ _ _ _ _ _ _ _ _ r h => by simp [laws_FnReadersPlan.j4] at h, fun _ _ _ _ _ _ _ _ _ _ _ _ _ _ _ _ r h => by simp [laws_FnReadersPlan.j7] at h, fun _ _ _ _ _ _ _ _ _ _ _ r h => by simp [laws_FnReadersPlan.j9] at h, fun _ _ _ _ _ r h => by simp [laws_FnReadersPlan.j12] at h, fun _ _ _ _ _ _ _ r h => by simp [laws_FnReadersPlan.l3] at h, fun _ _ _ _ _ _ _ _ _ _ r h => by simp [laws_FnReadersPlan.j10] at h, fun _ _ _ _ _ _ _ _ _ _ _ r h => by simp [laws_FnReadersPlan.l2] at h, fun _ _ _ _ _ _ _ _ _ _ _ _ _ _ _ _ r h => by simp [laws_FnReadersPlan.j8] at h, fun _ _ _ _ _ _ _ _ _ _ _ _ _ _ _ _ _ _ _ _ r h => by simp [laws_FnReadersPlan.j5] at h, fun _ _ _ _ _ _ _ _ _ _ _ _ _ _ _ _ _ _ _ _ _ _ r h => by simp [laws_FnReadersPlan.l1] at h, fun _ _ _ _ _ r h => by simp [laws_FnReadersPlan.j1] at h, fun _ _ _ _ _ _ _ r h => by simp [laws_FnReadersPlan.l0] at h⟩
  | k + 1 => by
    obtain ⟨ih0, ih1, ih2, ih3, ih4, ih5, ih6, ih7, ih8, ih9, ih10, ih11, ih12, ih13⟩ := laws_FnReadersPlan.mono_l k
    refine ⟨?_, ?_, ?_, ?_, ?_, ?_, ?_, ?_, ?_, ?_, ?_, ?_, ?_, ?_⟩
    · intro y0 y1 y2 y3 y4 y5 y6 y7 y8
      unfold laws_FnReadersPlan.j0
      repeat' first
      | (with_reducible exact ih0 _ _ _ _ _ _ _ _ _)
      | (with_reducible exact ih1 _)
      | (with_reducible exact ih2 _ _ _ _ _ _ _ _ _ _ _ _ _ _ _ _ _ _ _ _ _ _)
      | (with_reducible exact ih3 _ _ _ _ _ _ _ _ _ _ _ _ _ _ _ _)
      | (with_reducible exact ih4 _ _ _ _ _ _ _ _ _ _ _)
      | (with_reducible exact ih5 _ _ _ _ _)
      | (with_reducible exact ih6 _ _ _ _ _ _ _)
      | (with_reducible exact ih7 _ _ _ _ _ _ _ _ _ _)
      | (with_reducible exact ih8 _ _ _ _ _ _ _ _ _ _ _)
      | (with_reducible exact ih9 _ _ _ _ _ _ _ _ _ _ _ _ _ _ _ _)
      | (with_reducible exact ih10 _ _ _ _ _ _ _ _ _ _ _ _ _ _ _ _ _ _ _ _)
      | (with_reducible exact ih11 _ _ _ _ _ _ _ _ _ _ _ _ _ _ _ _ _ _ _ _ _ _)
      | (with_reducible exact ih12 _ _ _ _ _)
      | (with_reducible exact ih13 _ _ _ _ _ _ _)
      | (with_reducible exact impl_AfterParts.mono _ _ _ _)
      | (with_reducible exact impl_DaysOfParts.mono _ _ _ _)
      | (with_reducible exact impl_EvenPlan.mono _ _ _ _)
      | (with_reducible exact impl_FirstForRising.mono _ _ _ _)
      | (with_reducible exact impl_PartPlan.mono _ _ _ _)
      | (with_reducible exact impl_RisingPlan.mono _ _ _ _)
      | (with_reducible exact laws_xSame.mono _ _ _)
      | (with_reducible exact laws_xSum.mono _ _)
      | (with_reducible exact spec_AfterParts.mono _ _ _ _)
      | (with_reducible exact spec_DaysOfParts.mono _ _ _ _)
      | (with_reducible exact spec_DrawAfterParts.mono _ _)
      | (with_reducible exact spec_EvenPlan.mono _ _ _ _)
      | (with_reducible exact spec_FirstForRising.mono _ _ _ _)
      | (with_reducible exact spec_PartPlan.mono _ _ _ _)
      | (with_reducible exact spec_RisingPlan.mono _ _ _ _)
      | (with_reducible exact LeO.refl _)
      | (with_reducible exact LeO.none _)
      | (with_reducible refine LeO.ite ?_ ?_)
      | (with_reducible refine LeO.bind ?_ (fun _ => ?_))
      | exact ih0 _ _ _ _ _ _ _ _ _
      | exact ih1 _
      | exact ih2 _ _ _ _ _ _ _ _ _ _ _ _ _ _ _ _ _ _ _ _ _ _
      | exact ih3 _ _ _ _ _ _ _ _ _ _ _ _ _ _ _ _
      | exact ih4 _ _ _ _ _ _ _ _ _ _ _
      | exact ih5 _ _ _ _ _
      | exact ih6 _ _ _ _ _ _ _
      | exact ih7 _ _ _ _ _ _ _ _ _ _
      | exact ih8 _ _ _ _ _ _ _ _ _ _ _
      | exact ih9 _ _ _ _ _ _ _ _ _ _ _ _ _ _ _ _
      | exact ih10 _ _ _ _ _ _ _ _ _ _ _ _ _ _ _ _ _ _ _ _
      | exact ih11 _ _ _ _ _ _ _ _ _ _ _ _ _ _ _ _ _ _ _ _ _ _
      | exact ih12 _ _ _ _ _
      | exact ih13 _ _ _ _ _ _ _
      | exact impl_AfterParts.mono _ _ _ _
      | exact impl_DaysOfParts.mono _ _ _ _
      | exact impl_EvenPlan.mono _ _ _ _
      | exact impl_FirstForRising.mono _ _ _ _
      | exact impl_PartPlan.mono _ _ _ _
      | exact impl_RisingPlan.mono _ _ _ _
      | exact laws_xSame.mono _ _ _
      | exact laws_xSum.mono _ _
      | exact spec_AfterParts.mono _ _ _ _
      | exact spec_DaysOfParts.mono _ _ _ _
      | exact spec_DrawAfterParts.mono _ _
      | exact spec_EvenPlan.mono _ _ _ _
      | exact spec_FirstForRising.mono _ _ _ _
      | exact spec_PartPlan.mono _ _ _ _
      | exact spec_RisingPlan.mono _ _ _ _
      | exact LeO.none _
      | refine LeO.ite ?_ ?_
      | refine LeO.bind ?_ (fun _ => ?_)
    · intro y0
      unfold laws_FnReadersPlan.j3
      repeat' first
      | (with_reducible exact ih0 _ _ _ _ _ _ _ _ _)
      | (with_reducible exact ih1 _)
      | (with_reducible exact ih2 _ _ _ _ _ _ _ _ _ _ _ _ _ _ _ _ _ _ _ _ _ _)
      | (with_reducible exact ih3 _ _ _ _ _ _ _ _ _ _ _ _ _ _ _ _)
      | (with_reducible exact ih4 _ _ _ _ _ _ _ _ _ _ _)
      | (with_reducible exact ih5 _ _ _ _ _)
      | (with_reducible exact ih6 _ _ _ _ _ _ _)
      | (with_reducible exact ih7 _ _ _ _ _ _ _ _ _ _)
      | (with_reducible exact ih8 _ _ _ _ _ _ _ _ _ _ _)
      | (with_reducible exact ih9 _ _ _ _ _ _ _ _ _ _ _ _ _ _ _ _)
      | (with_reducible exact ih10 _ _ _ _ _ _ _ _ _ _ _ _ _ _ _ _ _ _ _ _)
      | (with_reducible exact ih11 _ _ _ _ _ _ _ _ _ _ _ _ _ _ _ _ _ _ _ _ _ _)
      | (with_reducible exact ih12 _ _ _ _ _)
      | (with_reducible exact ih13 _ _ _ _ _ _ _)
      | (with_reducible exact impl_AfterParts.mono _ _ _ _)
      | (with_reducible exact impl_DaysOfParts.mono _ _ _ _)
      | (with_reducible exact impl_EvenPlan.mono _ _ _ _)
      | (with_reducible exact impl_FirstForRising.mono _ _ _ _)
      | (with_reducible exact impl_PartPlan.mono _ _ _ _)
      | (with_reducible exact impl_RisingPlan.mono _ _ _ _)
      | (with_reducible exact laws_xSame.mono _ _ _)
      | (with_reducible exact laws_xSum.mono _ _)
      | (with_reducible exact spec_AfterParts.mono _ _ _ _)
      | (with_reducible exact spec_DaysOfParts.mono _ _ _ _)
      | (with_reducible exact spec_DrawAfterParts.mono _ _)
      | (with_reducible exact spec_EvenPlan.mono _ _ _ _)
      | (with_reducible exact spec_FirstForRising.mono _ _ _ _)
      | (with_reducible exact spec_PartPlan.mono _ _ _ _)
      | (with_reducible exact spec_RisingPlan.mono _ _ _ _)
      | (with_reducible exact LeO.refl _)
      | (with_reducible exact LeO.none _)
      | (with_reducible refine LeO.ite ?_ ?_)
      | (with_reducible refine LeO.bind ?_ (fun _ => ?_))
      | exact ih0 _ _ _ _ _ _ _ _ _
      | exact ih1 _
      | exact ih2 _ _ _ _ _ _ _ _ _ _ _ _ _ _ _ _ _ _ _ _ _ _
      | exact ih3 _ _ _ _ _ _ _ _ _ _ _ _ _ _ _ _
      | exact ih4 _ _ _ _ _ _ _ _ _ _ _
      | exact ih5 _ _ _ _ _
      | exact ih6 _ _ _ _ _ _ _
      | exact ih7 _ _ _ _ _ _ _ _ _ _
      | exact ih8 _ _ _ _ _ _ _ _ _ _ _
      | exact ih9 _ _ _ _ _ _ _ _ _ _ _ _ _ _ _ _
      | exact ih10 _ _ _ _ _ _ _ _ _ _ _ _ _ _ _ _ _ _ _ _
      | exact ih11 _ _ _ _ _ _ _ _ _ _ _ _ _ _ _ _ _ _ _ _ _ _
      | exact ih12 _ _ _ _ _
      | exact ih13 _ _ _ _ _ _ _
      | exact impl_AfterParts.mono _ _ _ _
      | exact impl_DaysOfParts.mono _ _ _ _
      | exact impl_EvenPlan.mono _ _ _ _
      | exact impl_FirstForRising.mono _ _ _ _
      | exact impl_PartPlan.mono _ _ _ _
      | exact impl_RisingPlan.mono _ _ _ _
      | exact laws_xSame.mono _ _ _
      | exact laws_xSum.mono _ _
      | exact spec_AfterParts.mono _ _ _ _
      | exact spec_DaysOfParts.mono _ _ _ _
      | exact spec_DrawAfterParts.mono _ _
      | exact spec_EvenPlan.mono _ _ _ _
      | exact spec_FirstForRising.mono _ _ _ _
      | exact spec_PartPlan.mono _ _ _ _
      | exact spec_RisingPlan.mono _ _ _ _
      | exact LeO.none _
      | refine LeO.ite ?_ ?_
      | refine LeO.bind ?_ (fun _ => ?_)
    · intro y0 y1 y2 y3 y4 y5 y6 y7 y8 y9 y10 y11 y12 y13 y14 y15 y16 y17 y18 y19 y20 y21
      unfold laws_FnReadersPlan.j4
      repeat' first
      | (with_reducible exact ih0 _ _ _ _ _ _ _ _ _)
      | (with_reducible exact ih1 _)
      | (with_reducible exact ih2 _ _ _ _ _ _ _ _ _ _ _ _ _ _ _ _ _ _ _ _ _ _)
      | (with_reducible exact ih3 _ _ _ _ _ _ _ _ _ _ _ _ _ _ _ _)
      | (with_reducible exact ih4 _ _ _ _ _ _ _ _ _ _ _)
      | (with_reducible exact ih5 _ _ _ _ _)
      | (with_reducible exact ih6 _ _ _ _ _ _ _)
      | (with_reducible exact ih7 _ _ _ _ _ _ _ _ _ _)
      | (with_reducible exact ih8 _ _ _ _ _ _ _ _ _ _ _)
      | (with_reducible exact ih9 _ _ _ _ _ _ _ _ _ _ _ _ _ _ _ _)
      | (with_reducible exact ih10 _ _ _ _ _ _ _ _ _ _ _ _ _ _ _ _ _ _ _ _)
      | (with_reducible exact ih11 _ _ _ _ _ _ _ _ _ _ _ _ _ _ _ _ _ _ _ _ _ _)
      | (with_reducible exact ih12 _ _ _ _ _)
      | (with_reducible exact ih13 _ _ _ _ _ _ _)
      | (with_reducible exact impl_AfterParts.mono _ _ _ _)
      | (with_reducible exact impl_DaysOfParts.mono _ _ _ _)
      | (with_reducible exact impl_EvenPlan.mono _ _ _ _)
      | (with_reducible exact impl_FirstForRising.mono _ _ _ _)
      | (with_reducible exact impl_PartPlan.mono _ _ _ _)
      | (with_reducible exact impl_RisingPlan.mono _ _ _ _)
      | (with_reducible exact laws_xSame.mono _ _ _)
      | (with_reducible exact laws_xSum.mono _ _)
      | (with_reducible exact spec_AfterParts.mono _ _ _ _)
      | (with_reducible exact spec_DaysOfParts.mono _ _ _ _)
      | (with_reducible exact spec_DrawAfterParts.mono _ _)
      | (with_reducible exact spec_EvenPlan.mono _ _ _ _)
      | (with_reducible exact spec_FirstForRising.mono _ _ _ _)
      | (with_reducible exact spec_PartPlan.mono _ _ _ _)
      | (with_reducible exact spec_RisingPlan.mono _ _ _ _)
      | (with_reducible exact LeO.refl _)
      | (with_reducible exact LeO.none _)
      | (with_reducible refine LeO.ite ?_ ?_)
      | (with_reducible refine LeO.bind ?_ (fun _ => ?_))
      | exact ih0 _ _ _ _ _ _ _ _ _
      | exact ih1 _
      | exact ih2 _ _ _ _ _ _ _ _ _ _ _ _ _ _ _ _ _ _ _ _ _ _
      | exact ih3 _ _ _ _ _ _ _ _ _ _ _ _ _ _ _ _
      | exact ih4 _ _ _ _ _ _ _ _ _ _ _
      | exact ih5 _ _ _ _ _
      | exact ih6 _ _ _ _ _ _ _
      | exact ih7 _ _ _ _ _ _ _ _ _ _
      | exact ih8 _ _ _ _ _ _ _ _ _ _ _
      | exact ih9 _ _ _ _ _ _ _ _ _ _ _ _ _ _ _ _
      | exact ih10 _ _ _ _ _ _ _ _ _ _ _ _ _ _ _ _ _ _ _ _
      | exact ih11 _ _ _ _ _ _ _ _ _ _ _ _ _ _ _ _ _ _ _ _ _ _
      | exact ih12 _ _ _ _ _
      | exact ih13 _ _ _ _ _ _ _
      | exact impl_AfterParts.mono _ _ _ _
      | exact impl_DaysOfParts.mono _ _ _ _
      | exact impl_EvenPlan.mono _ _ _ _
      | exact impl_FirstForRising.mono _ _ _ _
      | exact impl_PartPlan.mono _ _ _ _
      | exact impl_RisingPlan.mono _ _ _ _
      | exact laws_xSame.mono _ _ _
      | exact laws_xSum.mono _ _
      | exact spec_AfterParts.mono _ _ _ _
      | exact spec_DaysOfParts.mono _ _ _ _
      | exact spec_DrawAfterParts.mono _ _
      | exact spec_EvenPlan.mono _ _ _ _
      | exact spec_FirstForRising.mono _ _ _ _
      | exact spec_PartPlan.mono _ _ _ _
      | exact spec_RisingPlan.mono _ _ _ _
      | exact LeO.none _
      | refine LeO.ite ?_ ?_
      | refine LeO.bind ?_ (fun _ => ?_)
    · intro y0 y1 y2 y3 y4 y5 y6 y7 y8 y9 y10 y11 y12 y13 y14 y15
      unfold laws_FnReadersPlan.j7
      repeat' first
      | (with_reducible exact ih0 _ _ _ _ _ _ _ _ _)
      | (with_reducible exact ih1 _)
      | (with_reducible exact ih2 _ _ _ _ _ _ _ _ _ _ _ _ _ _ _ _ _ _ _ _ _ _)
      | (with_reducible exact ih3 _ _ _ _ _ _ _ _ _ _ _ _ _ _ _ _)
      | (with_reducible exact ih4 _ _ _ _ _ _ _ _ _ _ _)
      | (with_reducible exact ih5 _ _ _ _ _)
      | (with_reducible exact ih6 _ _ _ _ _ _ _)
      | (with_reducible exact ih7 _ _ _ _ _ _ _ _ _ _)
      | (with_reducible exact ih8 _ _ _ _ _ _ _ _ _ _ _)
      | (with_reducible exact ih9 _ _ _ _ _ _ _ _ _ _ _ _ _ _ _ _)
      | (with_reducible exact ih10 _ _ _ _ _ _ _ _ _ _ _ _ _ _ _ _ _ _ _ _)
      | (with_reducible exact ih11 _ _ _ _ _ _ _ _ _ _ _ _ _ _ _ _ _ _ _ _ _ _)
      | (with_reducible exact ih12 _ _ _ _ _)
      | (with_reducible exact ih13 _ _ _ _ _ _ _)
      | (with_reducible exact impl_AfterParts.mono _ _ _ _)
      | (with_reducible exact impl_DaysOfParts.mono _ _ _ _)
      | (with_reducible exact impl_EvenPlan.mono _ _ _ _)
      | (with_reducible exact impl_FirstForRising.mono _ _ _ _)
      | (with_reducible exact impl_PartPlan.mono _ _ _ _)
      | (with_reducible exact impl_RisingPlan.mono _ _ _ _)
      | (with_reducible exact laws_xSame.mono _ _ _)
      | (with_reducible exact laws_xSum.mono _ _)
      | (with_reducible exact spec_AfterParts.mono _ _ _ _)
      | (with_reducible exact spec_DaysOfParts.mono _ _ _ _)
      | (with_reducible exact spec_DrawAfterParts.mono _ _)
      | (with_reducible exact spec_EvenPlan.mono _ _ _ _)
      | (with_reducible exact spec_FirstForRising.mono _ _ _ _)
      | (with_reducible exact spec_PartPlan.mono _ _ _ _)
      | (with_reducible exact spec_RisingPlan.mono _ _ _ _)
      | (with_reducible exact LeO.refl _)
      | (with_reducible exact LeO.none _)
      | (with_reducible refine LeO.ite ?_ ?_)
      | (with_reducible refine LeO.bind ?_ (fun _ => ?_))
      | exact ih0 _ _ _ _ _ _ _ _ _
      | exact ih1 _
      | exact ih2 _ _ _ _ _ _ _ _ _ _ _ _ _ _ _ _ _ _ _ _ _ _
      | exact ih3 _ _ _ _ _ _ _ _ _ _ _ _ _ _ _ _
      | exact ih4 _ _ _ _ _ _ _ _ _ _ _
      | exact ih5 _ _ _ _ _
      | exact ih6 _ _ _ _ _ _ _
      | exact ih7 _ _ _ _ _ _ _ _ _ _
      | exact ih8 _ _ _ _ _ _ _ _ _ _ _
      | exact ih9 _ _ _ _ _ _ _ _ _ _ _ _ _ _ _ _
      | exact ih10 _ _ _ _ _ _ _ _ _ _ _ _ _ _ _ _ _ _ _ _
      | exact ih11 _ _ _ _ _ _ _ _ _ _ _ _ _ _ _ _ _ _ _ _ _ _
      | exact ih12 _ _ _ _ _
      | exact ih13 _ _ _ _ _ _ _
      | exact impl_AfterParts.mono _ _ _ _
      | exact impl_DaysOfParts.mono _ _ _ _
      | exact impl_EvenPlan.mono _ _ _ _
      | exact impl_FirstForRising.mono _ _ _ _
      | exact impl_PartPlan.mono _ _ _ _
      | exact impl_RisingPlan.mono _ _ _ _
      | exact laws_xSame.mono _ _ _
      | exact laws_xSum.mono _ _
      | exact spec_AfterParts.mono _ _ _ _
      | exact spec_DaysOfParts.mono _ _ _ _
      | exact spec_DrawAfterParts.mono _ _
      | exact spec_EvenPlan.mono _ _ _ _
      | exact spec_FirstForRising.mono _ _ _ _
      | exact spec_PartPlan.mono _ _ _ _
      | exact spec_RisingPlan.mono _ _ _ _
      | exact LeO.none _
      | refine LeO.ite ?_ ?_
      | refine LeO.bind ?_ (fun _ => ?_)
    · intro y0 y1 y2 y3 y4 y5 y6 y7 y8 y9 y10
      unfold laws_FnReadersPlan.j9
      repeat' first
      | (with_reducible exact ih0 _ _ _ _ _ _ _ _ _)
      | (with_reducible exact ih1 _)
      | (with_reducible exact ih2 _ _ _ _ _ _ _ _ _ _ _ _ _ _ _ _ _ _ _ _ _ _)
      | (with_reducible exact ih3 _ _ _ _ _ _ _ _ _ _ _ _ _ _ _ _)
      | (with_reducible exact ih4 _ _ _ _ _ _ _ _ _ _ _)
      | (with_reducible exact ih5 _ _ _ _ _)
      | (with_reducible exact ih6 _ _ _ _ _ _ _)
      | (with_reducible exact ih7 _ _ _ _ _ _ _ _ _ _)
      | (with_reducible exact ih8 _ _ _ _ _ _ _ _ _ _ _)
      | (with_reducible exact ih9 _ _ _ _ _ _ _ _ _ _ _ _ _ _ _ _)
      | (with_reducible exact ih10 _ _ _ _ _ _ _ _ _ _ _ _ _ _ _ _ _ _ _ _)
      | (with_reducible exact ih11 _ _ _ _ _ _ _ _ _ _ _ _ _ _ _ _ _ _ _ _ _ _)
      | (with_reducible exact ih12 _ _ _ _ _)
      | (with_reducible exact ih13 _ _ _ _ _ _ _)
      | (with_reducible exact impl_AfterParts.mono _ _ _ _)
      | (with_reducible exact impl_DaysOfParts.mono _ _ _ _)
      | (with_reducible exact impl_EvenPlan.mono _ _ _ _)
      | (with_reducible exact impl_FirstForRising.mono _ _ _ _)
      | (with_reducible exact impl_PartPlan.mono _ _ _ _)
      | (with_reducible exact impl_RisingPlan.mono _ _ _ _)
      | (with_reducible exact laws_xSame.mono _ _ _)
      | (with_reducible exact laws_xSum.mono _ _)
      | (with_reducible exact spec_AfterParts.mono _ _ _ _)
      | (with_reducible exact spec_DaysOfParts.mono _ _ _ _)
      | (with_reducible exact spec_DrawAfterParts.mono _ _)
      | (with_reducible exact spec_EvenPlan.mono _ _ _ _)
      | (with_reducible exact spec_FirstForRising.mono _ _ _ _)
      | (with_reducible exact spec_PartPlan.mono _ _ _ _)
      | (with_reducible exact spec_RisingPlan.mono _ _ _ _)
      | (with_reducible exact LeO.refl _)
      | (with_reducible exact LeO.none _)
      | (with_reducible refine LeO.ite ?_ ?_)
      | (with_reducible refine LeO.bind ?_ (fun _ => ?_))
      | exact ih0 _ _ _ _ _ _ _ _ _
      | exact ih1 _
      | exact ih2 _ _ _ _ _ _ _ _ _ _ _ _ _ _ _ _ _ _ _ _ _ _
      | exact ih3 _ _ _ _ _ _ _ _ _ _ _ _ _ _ _ _
      | exact ih4 _ _ _ _ _ _ _ _ _ _ _
      | exact ih5 _ _ _ _ _
      | exact ih6 _ _ _ _ _ _ _
      | exact ih7 _ _ _ _ _ _ _ _ _ _
      | exact ih8 _ _ _ _ _ _ _ _ _ _ _
      | exact ih9 _ _ _ _ _ _ _ _ _ _ _ _ _ _ _ _
      | exact ih10 _ _ _ _ _ _ _ _ _ _ _ _ _ _ _ _ _ _ _ _
      | exact ih11 _ _ _ _ _ _ _ _ _ _ _ _ _ _ _ _ _ _ _ _ _ _
      | exact ih12 _ _ _ _ _
      | exact ih13 _ _ _ _ _ _ _
      | exact impl_AfterParts.mono _ _ _ _
      | exact impl_DaysOfParts.mono _ _ _ _
      | exact impl_EvenPlan.mono _ _ _ _
      | exact impl_FirstForRising.mono _ _ _ _
      | exact impl_PartPlan.mono _ _ _ _
      | exact impl_RisingPlan.mono _ _ _ _
      | exact laws_xSame.mono _ _ _
      | exact laws_xSum.mono _ _
      | exact spec_AfterParts.mono _ _ _ _
      | exact spec_DaysOfParts.mono _ _ _ _
      | exact spec_DrawAfterParts.mono _ _
      | exact spec_EvenPlan.mono _ _ _ _
      | exact spec_FirstForRising.mono _ _ _ _
      | exact spec_PartPlan.mono _ _ _ _
      | exact spec_RisingPlan.mono _ _ _ _
      | exact LeO.none _
      | refine LeO.ite ?_ ?_
      | refine LeO.bind ?_ (fun _ => ?_)
    · intro y0 y1 y2 y3 y4
      unfold laws_FnReadersPlan.j12
      repeat' first
      | (with_reducible exact ih0 _ _ _ _ _ _ _ _ _)
      | (with_reducible exact ih1 _)
      | (with_reducible exact ih2 _ _ _ _ _ _ _ _ _ _ _ _ _ _ _ _ _ _ _ _ _ _)
      | (with_reducible exact ih3 _ _ _ _ _ _ _ _ _ _ _ _ _ _ _ _)
      | (with_reducible exact ih4 _ _ _ _ _ _ _ _ _ _ _)
      | (with_reducible exact ih5 _ _ _ _ _)
      | (with_reducible exact ih6 _ _ _ _ _ _ _)
      | (with_reducible exact ih7 _ _ _ _ _ _ _ _ _ _)
      | (with_reducible exact ih8 _ _ _ _ _ _ _ _ _ _ _)
      | (with_reducible exact ih9 _ _ _ _ _ _ _ _ _ _ _ _ _ _ _ _)
      | (with_reducible exact ih10 _ _ _ _ _ _ _ _ _ _ _ _ _ _ _ _ _ _ _ _)
      | (with_reducible exact ih11 _ _ _ _ _ _ _ _ _ _ _ _ _ _ _ _ _ _ _ _ _ _)
      | (with_reducible exact ih12 _ _ _ _ _)
      | (with_reducible exact ih13 _ _ _ _ _ _ _)
      | (with_reducible exact impl_AfterParts.mono _ _ _ _)
      | (with_reducible exact impl_DaysOfParts.mono _ _ _ _)
      | (with_reducible exact impl_EvenPlan.mono _ _ _ _)
      | (with_reducible exact impl_FirstForRising.mono _ _ _ _)
      | (with_reducible exact impl_PartPlan.mono _ _ _ _)
      | (with_reducible exact impl_RisingPlan.mono _ _ _ _)
      | (with_reducible exact laws_xSame.mono _ _ _)
      | (with_reducible exact laws_xSum.mono _ _)
      | (with_reducible exact spec_AfterParts.mono _ _ _ _)
      | (with_reducible exact spec_DaysOfParts.mono _ _ _ _)
      | (with_reducible exact spec_DrawAfterParts.mono _ _)
      | (with_reducible exact spec_EvenPlan.mono _ _ _ _)
      | (with_reducible exact spec_FirstForRising.mono _ _ _ _)
      | (with_reducible exact spec_PartPlan.mono _ _ _ _)
      | (with_reducible exact spec_RisingPlan.mono _ _ _ _)
      | (with_reducible exact LeO.refl _)
      | (with_reducible exact LeO.none _)
      | (with_reducible refine LeO.ite ?_ ?_)
      | (with_reducible refine LeO.bind ?_ (fun _ => ?_))
      | exact ih0 _ _ _ _ _ _ _ _ _
      | exact ih1 _
      | exact ih2 _ _ _ _ _ _ _ _ _ _ _ _ _ _ _ _ _ _ _ _ _ _
      | exact ih3 _ _ _ _ _ _ _ _ _ _ _ _ _ _ _ _
      | exact ih4 _ _ _ _ _ _ _ _ _ _ _
      | exact ih5 _ _ _ _ _
      | exact ih6 _ _ _ _ _ _ _
      | exact ih7 _ _ _ _ _ _ _ _ _ _
      | exact ih8 _ _ _ _ _ _ _ _ _ _ _
      | exact ih9 _ _ _ _ _ _ _ _ _ _ _ _ _ _ _ _
      | exact ih10 _ _ _ _ _ _ _ _ _ _ _ _ _ _ _ _ _ _ _ _
      | exact ih11 _ _ _ _ _ _ _ _ _ _ _ _ _ _ _ _ _ _ _ _ _ _
      | exact ih12 _ _ _ _ _
      | exact ih13 _ _ _ _ _ _ _
      | exact impl_AfterParts.mono _ _ _ _
      | exact impl_DaysOfParts.mono _ _ _ _
      | exact impl_EvenPlan.mono _ _ _ _
      | exact impl_FirstForRising.mono _ _ _ _
      | exact impl_PartPlan.mono _ _ _ _
      | exact impl_RisingPlan.mono _ _ _ _
      | exact laws_xSame.mono _ _ _
      | exact laws_xSum.mono _ _
      | exact spec_AfterParts.mono _ _ _ _
      | exact spec_DaysOfParts.mono _ _ _ _
      | exact spec_DrawAfterParts.mono _ _
      | exact spec_EvenPlan.mono _ _ _ _
      | exact spec_FirstForRising.mono _ _ _ _
      | exact spec_PartPlan.mono _ _ _ _
      | exact spec_RisingPlan.mono _ _ _ _
      | exact LeO.none _
      | refine LeO.ite ?_ ?_
      | refine LeO.bind ?_ (fun _ => ?_)
    · intro y0 y1 y2 y3 y4 y5 y6
      unfold laws_FnReadersPlan.l3
      repeat' first
      | (with_reducible exact ih0 _ _ _ _ _ _ _ _ _)
      | (with_reducible exact ih1 _)
      | (with_reducible exact ih2 _ _ _ _ _ _ _ _ _ _ _ _ _ _ _ _ _ _ _ _ _ _)
      | (with_reducible exact ih3 _ _ _ _ _ _ _ _ _ _ _ _ _ _ _ _)
      | (with_reducible exact ih4 _ _ _ _ _ _ _ _ _ _ _)
      | (with_reducible exact ih5 _ _ _ _ _)
      | (with_reducible exact ih6 _ _ _ _ _ _ _)
      | (with_reducible exact ih7 _ _ _ _ _ _ _ _ _ _)
      | (with_reducible exact ih8 _ _ _ _ _ _ _ _ _ _ _)
      | (with_reducible exact ih9 _ _ _ _ _ _ _ _ _ _ _ _ _ _ _ _)
      | (with_reducible exact ih10 _ _ _ _ _ _ _ _ _ _ _ _ _ _ _ _ _ _ _ _)
      | (with_reducible exact ih11 _ _ _ _ _ _ _ _ _ _ _ _ _ _ _ _ _ _ _ _ _ _)
      | (with_reducible exact ih12 _ _ _ _ _)
      | (with_reducible exact ih13 _ _ _ _ _ _ _)
      | (with_reducible exact impl_AfterParts.mono _ _ _ _)
      | (with_reducible exact impl_DaysOfParts.mono _ _ _ _)
      | (with_reducible exact impl_EvenPlan.mono _ _ _ _)
      | (with_reducible exact impl_FirstForRising.mono _ _ _ _)
      | (with_reducible exact impl_PartPlan.mono _ _ _ _)
      | (with_reducible exact impl_RisingPlan.mono _ _ _ _)
      | (with_reducible exact laws_xSame.mono _ _ _)
      | (with_reducible exact laws_xSum.mono _ _)
      | (with_reducible exact spec_AfterParts.mono _ _ _ _)
      | (with_reducible exact spec_DaysOfParts.mono _ _ _ _)
      | (with_reducible exact spec_DrawAfterParts.mono _ _)
      | (with_reducible exact spec_EvenPlan.mono _ _ _ _)
      | (with_reducible exact spec_FirstForRising.mono _ _ _ _)
      | (with_reducible exact spec_PartPlan.mono _ _ _ _)
      | (with_reducible exact spec_RisingPlan.mono _ _ _ _)
      | (with_reducible exact LeO.refl _)
      | (with_reducible exact LeO.none _)
      | (with_reducible refine LeO.ite ?_ ?_)
      | (with_reducible refine LeO.bind ?_ (fun _ => ?_))
      | exact ih0 _ _ _ _ _ _ _ _ _
      | exact ih1 _
      | exact ih2 _ _ _ _ _ _ _ _ _ _ _ _ _ _ _ _ _ _ _ _ _ _
      | exact ih3 _ _ _ _ _ _ _ _ _ _ _ _ _ _ _ _
      | exact ih4 _ _ _ _ _ _ _ _ _ _ _
      | exact ih5 _ _ _ _ _
      | exact ih6 _ _ _ _ _ _ _
      | exact ih7 _ _ _ _ _ _ _ _ _ _
      | exact ih8 _ _ _ _ _ _ _ _ _ _ _
      | exact ih9 _ _ _ _ _ _ _ _ _ _ _ _ _ _ _ _
      | exact ih10 _ _ _ _ _ _ _ _ _ _ _ _ _ _ _ _ _ _ _ _
      | exact ih11 _ _ _ _ _ _ _ _ _ _ _ _ _ _ _ _ _ _ _ _ _ _
      | exact ih12 _ _ _ _ _
      | exact ih13 _ _ _ _ _ _ _
      | exact impl_AfterParts.mono _ _ _ _
      | exact impl_DaysOfParts.mono _ _ _ _
      | exact impl_EvenPlan.mono _ _ _ _
      | exact impl_FirstForRising.mono _ _ _ _
      | exact impl_PartPlan.mono _ _ _ _
      | exact impl_RisingPlan.mono _ _ _ _
      | exact laws_xSame.mono _ _ _
      | exact laws_xSum.mono _ _
      | exact spec_AfterParts.mono _ _ _ _
      | exact spec_DaysOfParts.mono _ _ _ _
      | exact spec_DrawAfterParts.mono _ _
      | exact spec_EvenPlan.mono _ _ _ _
      | exact spec_FirstForRising.mono _ _ _ _
      | exact spec_PartPlan.mono _ _ _ _
      | exact spec_RisingPlan.mono _ _ _ _
      | exact LeO.none _
      | refine LeO.ite ?_ ?_
      | refine LeO.bind ?_ (fun _ => ?_)
    · intro y0 y1 y2 y3 y4 y5 y6 y7 y8 y9
      unfold laws_FnReadersPlan.j10
      repeat' first
      | (with_reducible exact ih0 _ _ _ _ _ _ _ _ _)
      | (with_reducible exact ih1 _)
      | (with_reducible exact ih2 _ _ _ _ _ _ _ _ _ _ _ _ _ _ _ _ _ _ _ _ _ _)
      | (with_reducible exact ih3 _ _ _ _ _ _ _ _ _ _ _ _ _ _ _ _)
      | (with_reducible exact ih4 _ _ _ _ _ _ _ _ _ _ _)
      | (with_reducible exact ih5 _ _ _ _ _)
      | (with_reducible exact ih6 _ _ _ _ _ _ _)
      | (with_reducible exact ih7 _ _ _ _ _ _ _ _ _ _)
      | (with_reducible exact ih8 _ _ _ _ _ _ _ _ _ _ _)
      | (with_reducible exact ih9 _ _ _ _ _ _ _ _ _ _ _ _ _ _ _ _)
      | (with_reducible exact ih10 _ _ _ _ _ _ _ _ _ _ _ _ _ _ _ _ _ _ _ _)
      | (with_reducible exact ih11 _ _ _ _ _ _ _ _ _ _ _ _ _ _ _ _ _ _ _ _ _ _)
      | (with_reducible exact ih12 _ _ _ _ _)
      | (with_reducible exact ih13 _ _ _ _ _ _ _)
      | (with_reducible exact impl_AfterParts.mono _ _ _ _)
      | (with_reducible exact impl_DaysOfParts.mono _ _ _ _)
      | (with_reducible exact impl_EvenPlan.mono _ _ _ _)
      | (with_reducible exact impl_FirstForRising.mono _ _ _ _)
      | (with_reducible exact impl_PartPlan.mono _ _ _ _)
      | (with_reducible exact impl_RisingPlan.mono _ _ _ _)
      | (with_reducible exact laws_xSame.mono _ _ _)
      | (with_reducible exact laws_xSum.mono _ _)
      | (with_reducible exact spec_AfterParts.mono _ _ _ _)
      | (with_reducible exact spec_DaysOfParts.mono _ _ _ _)
      | (with_reducible exact spec_DrawAfterParts.mono _ _)
      | (with_reducible exact spec_EvenPlan.mono _ _ _ _)
      | (with_reducible exact spec_FirstForRising.mono _ _ _ _)
      | (with_reducible exact spec_PartPlan.mono _ _ _ _)
      | (with_reducible exact spec_RisingPlan.mono _ _ _ _)
      | (with_reducible exact LeO.refl _)
      | (with_reducible exact LeO.none _)
      | (with_reducible refine LeO.ite ?_ ?_)
      | (with_reducible refine LeO.bind ?_ (fun _ => ?_))
      | exact ih0 _ _ _ _ _ _ _ _ _
      | exact ih1 _
      | exact ih2 _ _ _ _ _ _ _ _ _ _ _ _ _ _ _ _ _ _ _ _ _ _
      | exact ih3 _ _ _ _ _ _ _ _ _ _ _ _ _ _ _ _
      | exact ih4 _ _ _ _ _ _ _ _ _ _ _
      | exact ih5 _ _ _ _ _
      | exact ih6 _ _ _ _ _ _ _
      | exact ih7 _ _ _ _ _ _ _ _ _ _
      | exact ih8 _ _ _ _ _ _ _ _ _ _ _
      | exact ih9 _ _ _ _ _ _ _ _ _ _ _ _ _ _ _ _
      | exact ih10 _ _ _ _ _ _ _ _ _ _ _ _ _ _ _ _ _ _ _ _
      | exact ih11 _ _ _ _ _ _ _ _ _ _ _ _ _ _ _ _ _ _ _ _ _ _
      | exact ih12 _ _ _ _ _
      | exact ih13 _ _ _ _ _ _ _
      | exact impl_AfterParts.mono _ _ _ _
      | exact impl_DaysOfParts.mono _ _ _ _
      | exact impl_EvenPlan.mono _ _ _ _
      | exact impl_FirstForRising.mono _ _ _ _
      | exact impl_PartPlan.mono _ _ _ _
      | exact impl_RisingPlan.mono _ _ _ _
      | exact laws_xSame.mono _ _ _
      | exact laws_xSum.mono _ _
      | exact spec_AfterParts.mono _ _ _ _
      | exact spec_DaysOfParts.mono _ _ _ _
      | exact spec_DrawAfterParts.mono _ _
      | exact spec_EvenPlan.mono _ _ _ _
      | exact spec_FirstForRising.mono _ _ _ _
      | exact spec_PartPlan.mono _ _ _ _
      | exact spec_RisingPlan.mono _ _ _ _
      | exact LeO.none _
      | refine LeO.ite ?_ ?_
      | refine LeO.bind ?_ (fun _ => ?_)
    · intro y0 y1 y2 y3 y4 y5 y6 y7 y8 y9 y10
      unfold laws_FnReadersPlan.l2
      repeat' first
      | (with_reducible exact ih0 _ _ _ _ _ _ _ _ _)
      | (with_reducible exact ih1 _)
      | (with_reducible exact ih2 _ _ _ _ _ _ _ _ _ _ _ _ _ _ _ _ _ _ _ _ _ _)
      | (with_reducible exact ih3 _ _ _ _ _ _ _ _ _ _ _ _ _ _ _ _)
      | (with_reducible exact ih4 _ _ _ _ _ _ _ _ _ _ _)
      | (with_reducible exact ih5 _ _ _ _ _)
      | (with_reducible exact ih6 _ _ _ _ _ _ _)
      | (with_reducible exact ih7 _ _ _ _ _ _ _ _ _ _)
      | (with_reducible exact ih8 _ _ _ _ _ _ _ _ _ _ _)
      | (with_reducible exact ih9 _ _ _ _ _ _ _ _ _ _ _ _ _ _ _ _)
      | (with_reducible exact ih10 _ _ _ _ _ _ _ _ _ _ _ _ _ _ _ _ _ _ _ _)
      | (with_reducible exact ih11 _ _ _ _ _ _ _ _ _ _ _ _ _ _ _ _ _ _ _ _ _ _)
      | (with_reducible exact ih12 _ _ _ _ _)
      | (with_reducible exact ih13 _ _ _ _ _ _ _)
      | (with_reducible exact impl_AfterParts.mono _ _ _ _)
      | (with_reducible exact impl_DaysOfParts.mono _ _ _ _)
      | (with_reducible exact impl_EvenPlan.mono _ _ _ _)
      | (with_reducible exact impl_FirstForRising.mono _ _ _ _)
      | (with_reducible exact impl_PartPlan.mono _ _ _ _)
      | (with_reducible exact impl_RisingPlan.mono _ _ _ _)
      | (with_reducible exact laws_xSame.mono _ _ _)
      | (with_reducible exact laws_xSum.mono _ _)
      | (with_reducible exact spec_AfterParts.mono _ _ _ _)
      | (with_reducible exact spec_DaysOfParts.mono _ _ _ _)
      | (with_reducible exact spec_DrawAfterParts.mono _ _)
      | (with_reducible exact spec_EvenPlan.mono _ _ _ _)
      | (with_reducible exact spec_FirstForRising.mono _ _ _ _)
      | (with_reducible exact spec_PartPlan.mono _ _ _ _)
      | (with_reducible exact spec_RisingPlan.mono _ _ _ _)
      | (with_reducible exact LeO.refl _)
      | (with_reducible exact LeO.none _)
      | (with_reducible refine LeO.ite ?_ ?_)
      | (with_reducible refine LeO.bind ?_ (fun _ => ?_))
      | exact ih0 _ _ _ _ _ _ _ _ _
      | exact ih1 _
      | exact ih2 _ _ _ _ _ _ _ _ _ _ _ _ _ _ _ _ _ _ _ _ _ _
      | exact ih3 _ _ _ _ _ _ _ _ _ _ _ _ _ _ _ _
      | exact ih4 _ _ _ _ _ _ _ _ _ _ _
      | exact ih5 _ _ _ _ _
      | exact ih6 _ _ _ _ _ _ _
      | exact ih7 _ _ _ _ _ _ _ _ _ _
      | exact ih8 _ _ _ _ _ _ _ _ _ _ _
      | exact ih9 _ _ _ _ _ _ _ _ _ _ _ _ _ _ _ _
      | exact ih10 _ _ _ _ _ _ _ _ _ _ _ _ _ _ _ _ _ _ _ _
      | exact ih11 _ _ _ _ _ _ _ _ _ _ _ _ _ _ _ _ _ _ _ _ _ _
      | exact ih12 _ _ _ _ _
      | exact ih13 _ _ _ _ _ _ _
      | exact impl_AfterParts.mono _ _ _ _
      | exact impl_DaysOfParts.mono _ _ _ _
      | exact impl_EvenPlan.mono _ _ _ _
      | exact impl_FirstForRising.mono _ _ _ _
      | exact impl_PartPlan.mono _ _ _ _
      | exact impl_RisingPlan.mono _ _ _ _
      | exact laws_xSame.mono _ _ _
      | exact laws_xSum.mono _ _
      | exact spec_AfterParts.mono _ _ _ _
      | exact spec_DaysOfParts.mono _ _ _ _
      | exact spec_DrawAfterParts.mono _ _
      | exact spec_EvenPlan.mono _ _ _ _
      | exact spec_FirstForRising.mono _ _ _ _
      | exact spec_PartPlan.mono _ _ _ _
      | exact spec_RisingPlan.mono _ _ _ _
      | exact LeO.none _
      | refine LeO.ite ?_ ?_
      | refine LeO.bind ?_ (fun _ => ?_)
    · intro y0 y1 y2 y3 y4 y5 y6 y7 y8 y9 y10 y11 y12 y13 y14 y15
      unfold laws_FnReadersPlan.j8
      repeat' first
      | (with_reducible exact ih0 _ _ _ _ _ _ _ _ _)
      | (with_reducible exact ih1 _)
      | (with_reducible exact ih2 _ _ _ _ _ _ _ _ _ _ _ _ _ _ _ _ _ _ _ _ _ _)
      | (with_reducible exact ih3 _ _ _ _ _ _ _ _ _ _ _ _ _ _ _ _)
      | (with_reducible exact ih4 _ _ _ _ _ _ _ _ _ _ _)
      | (with_reducible exact ih5 _ _ _ _ _)
      | (with_reducible exact ih6 _ _ _ _ _ _ _)
      | (with_reducible exact ih7 _ _ _ _ _ _ _ _ _ _)
      | (with_reducible exact ih8 _ _ _ _ _ _ _ _ _ _ _)
      | (with_reducible exact ih9 _ _ _ _ _ _ _ _ _ _ _ _ _ _ _ _)
      | (with_reducible exact ih10 _ _ _ _ _ _ _ _ _ _ _ _ _ _ _ _ _ _ _ _)
      | (with_reducible exact ih11 _ _ _ _ _ _ _ _ _ _ _ _ _ _ _ _ _ _ _ _ _ _)
      | (with_reducible exact ih12 _ _ _ _ _)
      | (with_reducible exact ih13 _ _ _ _ _ _ _)
      | (with_reducible exact impl_AfterParts.mono _ _ _ _)
      | (with_reducible exact impl_DaysOfParts.mono _ _ _ _)
      | (with_reducible exact impl_EvenPlan.mono _ _ _ _)
      | (with_reducible exact impl_FirstForRising.mono _ _ _ _)
      | (with_reducible exact impl_PartPlan.mono _ _ _ _)
      | (with_reducible exact impl_RisingPlan.mono _ _ _ _)
      | (with_reducible exact laws_xSame.mono _ _ _)
      | (with_reducible exact laws_xSum.mono _ _)
      | (with_reducible exact spec_AfterParts.mono _ _ _ _)
      | (with_reducible exact spec_DaysOfParts.mono _ _ _ _)
      | (with_reducible exact spec_DrawAfterParts.mono _ _)
      | (with_reducible exact spec_EvenPlan.mono _ _ _ _)
      | (with_reducible exact spec_FirstForRising.mono _ _ _ _)
      | (with_reducible exact spec_PartPlan.mono _ _ _ _)
      | (with_reducible exact spec_RisingPlan.mono _ _ _ _)
      | (with_reducible exact LeO.refl _)
      | (with_reducible exact LeO.none _)
      | (with_reducible refine LeO.ite ?_ ?_)
      | (with_reducible refine LeO.bind ?_ (fun _ => ?_))
      | exact ih0 _ _ _ _ _ _ _ _ _
      | exact ih1 _
      | exact ih2 _ _ _ _ _ _ _ _ _ _ _ _ _ _ _ _ _ _ _ _ _ _
      | exact ih3 _ _ _ _ _ _ _ _ _ _ _ _ _ _ _ _
      | exact ih4 _ _ _ _ _ _ _ _ _ _ _
      | exact ih5 _ _ _ _ _
      | exact ih6 _ _ _ _ _ _ _
      | exact ih7 _ _ _ _ _ _ _ _ _ _
      | exact ih8 _ _ _ _ _ _ _ _ _ _ _
      | exact ih9 _ _ _ _ _ _ _ _ _ _ _ _ _ _ _ _
      | exact ih10 _ _ _ _ _ _ _ _ _ _ _ _ _ _ _ _ _ _ _ _
      | exact ih11 _ _ _ _ _ _ _ _ _ _ _ _ _ _ _ _ _ _ _ _ _ _
      | exact ih12 _ _ _ _ _
      | exact ih13 _ _ _ _ _ _ _
      | exact impl_AfterParts.mono _ _ _ _
      | exact impl_DaysOfParts.mono _ _ _ _
      | exact impl_EvenPlan.mono _ _ _ _
      | exact impl_FirstForRising.mono _ _ _ _
      | exact impl_PartPlan.mono _ _ _ _
      | exact impl_RisingPlan.mono _ _ _ _
      | exact laws_xSame.mono _ _ _
      | exact laws_xSum.mono _ _
      | exact spec_AfterParts.mono _ _ _ _
      | exact spec_DaysOfParts.mono _ _ _ _
      | exact spec_DrawAfterParts.mono _ _
      | exact spec_EvenPlan.mono _ _ _ _
      | exact spec_FirstForRising.mono _ _ _ _
      | exact spec_PartPlan.mono _ _ _ _
      | exact spec_RisingPlan.mono _ _ _ _
      | exact LeO.none _
      | refine LeO.ite ?_ ?_
      | refine LeO.bind ?_ (fun _ => ?_)
    · intro y0 y1 y2 y3 y4 y5 y6 y7 y8 y9 y10 y11 y12 y13 y14 y15 y16 y17 y18 y19
      unfold laws_FnReadersPlan.j5
      repeat' first
      | (with_reducible exact ih0 _ _ _ _ _ _ _ _ _)
      | (with_reducible exact ih1 _)
      | (with_reducible exact ih2 _ _ _ _ _ _ _ _ _ _ _ _ _ _ _ _ _ _ _ _ _ _)
      | (with_reducible exact ih3 _ _ _ _ _ _ _ _ _ _ _ _ _ _ _ _)
      | (with_reducible exact ih4 _ _ _ _ _ _ _ _ _ _ _)
      | (with_reducible exact ih5 _ _ _ _ _)
      | (with_reducible exact ih6 _ _ _ _ _ _ _)
      | (with_reducible exact ih7 _ _ _ _ _ _ _ _ _ _)
      | (with_reducible exact ih8 _ _ _ _ _ _ _ _ _ _ _)
      | (with_reducible exact ih9 _ _ _ _ _ _ _ _ _ _ _ _ _ _ _ _)
      | (with_reducible exact ih10 _ _ _ _ _ _ _ _ _ _ _ _ _ _ _ _ _ _ _ _)
      | (with_reducible exact ih11 _ _ _ _ _ _ _ _ _ _ _ _ _ _ _ _ _ _ _ _ _ _)
      | (with_reducible exact ih12 _ _ _ _ _)
      | (with_reducible exact ih13 _ _ _ _ _ _ _)
      | (with_reducible exact impl_AfterParts.mono _ _ _ _)
      | (with_reducible exact impl_DaysOfParts.mono _ _ _ _)
      | (with_reducible exact impl_EvenPlan.mono _ _ _ _)
      | (with_reducible exact impl_FirstForRising.mono _ _ _ _)
      | (with_reducible exact impl_PartPlan.mono _ _ _ _)
      | (with_reducible exact impl_RisingPlan.mono _ _ _ _)
      | (with_reducible exact laws_xSame.mono _ _ _)
      | (with_reducible exact laws_xSum.mono _ _)
      | (with_reducible exact spec_AfterParts.mono _ _ _ _)
      | (with_reducible exact spec_DaysOfParts.mono _ _ _ _)
      | (with_reducible exact spec_DrawAfterParts.mono _ _)
      | (with_reducible exact spec_EvenPlan.mono _ _ _ _)
      | (with_reducible exact spec_FirstForRising.mono _ _ _ _)
      | (with_reducible exact spec_PartPlan.mono _ _ _ _)
      | (with_reducible exact spec_RisingPlan.mono _ _ _ _)
      | (with_reducible exact LeO.refl _)
      | (with_reducible exact LeO.none _)
      | (with_reducible refine LeO.ite ?_ ?_)
      | (with_reducible refine LeO.bind ?_ (fun _ => ?_))
      | exact ih0 _ _ _ _ _ _ _ _ _
      | exact ih1 _
      | exact ih2 _ _ _ _ _ _ _ _ _ _ _ _ _ _ _ _ _ _ _ _ _ _
      | exact ih3 _ _ _ _ _ _ _ _ _ _ _ _ _ _ _ _
      | exact ih4 _ _ _ _ _ _ _ _ _ _ _
      | exact ih5 _ _ _ _ _
      | exact ih6 _ _ _ _ _ _ _
      | exact ih7 _ _ _ _ _ _ _ _ _ _
      | exact ih8 _ _ _ _ _ _ _ _ _ _ _
      | exact ih9 _ _ _ _ _ _ _ _ _ _ _ _ _ _ _ _
      | exact ih10 _ _ _ _ _ _ _ _ _ _ _ _ _ _ _ _ _ _ _ _
      | exact ih11 _ _ _ _ _ _ _ _ _ _ _ _ _ _ _ _ _ _ _ _ _ _
      | exact ih12 _ _ _ _ _
      | exact ih13 _ _ _ _ _ _ _
      | exact impl_AfterParts.mono _ _ _ _
      | exact impl_DaysOfParts.mono _ _ _ _
      | exact impl_EvenPlan.mono _ _ _ _
      | exact impl_FirstForRising.mono _ _ _ _
      | exact impl_PartPlan.mono _ _ _ _
      | exact impl_RisingPlan.mono _ _ _ _
      | exact laws_xSame.mono _ _ _
      | exact laws_xSum.mono _ _
      | exact spec_AfterParts.mono _ _ _ _
      | exact spec_DaysOfParts.mono _ _ _ _
      | exact spec_DrawAfterParts.mono _ _
      | exact spec_EvenPlan.mono _ _ _ _
      | exact spec_FirstForRising.mono _ _ _ _
      | exact spec_PartPlan.mono _ _ _ _
      | exact spec_RisingPlan.mono _ _ _ _
      | exact LeO.none _
      | refine LeO.ite ?_ ?_
      | refine LeO.bind ?_ (fun _ => ?_)
    · intro y0 y1 y2 y3 y4 y5 y6 y7 y8 y9 y10 y11 y12 y13 y14 y15 y16 y17 y18 y19 y20 y21
      unfold laws_FnReadersPlan.l1
      repeat' first
      | (with_reducible exact ih0 _ _ _ _ _ _ _ _ _)
      | (with_reducible exact ih1 _)
      | (with_reducible exact ih2 _ _ _ _ _ _ _ _ _ _ _ _ _ _ _ _ _ _ _ _ _ _)
      | (with_reducible exact ih3 _ _ _ _ _ _ _ _ _ _ _ _ _ _ _ _)
      | (with_reducible exact ih4 _ _ _ _ _ _ _ _ _ _ _)
      | (with_reducible exact ih5 _ _ _ _ _)
      | (with_reducible exact ih6 _ _ _ _ _ _ _)
      | (with_reducible exact ih7 _ _ _ _ _ _ _ _ _ _)
      | (with_reducible exact ih8 _ _ _ _ _ _ _ _ _ _ _)
      | (with_reducible exact ih9 _ _ _ _ _ _ _ _ _ _ _ _ _ _ _ _)
      | (with_reducible exact ih10 _ _ _ _ _ _ _ _ _ _ _ _ _ _ _ _ _ _ _ _)
      | (with_reducible exact ih11 _ _ _ _ _ _ _ _ _ _ _ _ _ _ _ _ _ _ _ _ _ _)
      | (with_reducible exact ih12 _ _ _ _ _)
      | (with_reducible exact ih13 _ _ _ _ _ _ _)
      | (with_reducible exact impl_AfterParts.mono _ _ _ _)
      | (with_reducible exact impl_DaysOfParts.mono _ _ _ _)
      | (with_reducible exact impl_EvenPlan.mono _ _ _ _)
      | (with_reducible exact impl_FirstForRising.mono _ _ _ _)
      | (with_reducible exact impl_PartPlan.mono _ _ _ _)
      | (with_reducible exact impl_RisingPlan.mono _ _ _ _)
      | (with_reducible exact laws_xSame.mono _ _ _)
      | (with_reducible exact laws_xSum.mono _ _)
      | (with_reducible exact spec_AfterParts.mono _ _ _ _)
      | (with_reducible exact spec_DaysOfParts.mono _ _ _ _)
      | (with_reducible exact spec_DrawAfterParts.mono _ _)
      | (with_reducible exact spec_EvenPlan.mono _ _ _ _)
      | (with_reducible exact spec_FirstForRising.mono _ _ _ _)
      | (with_reducible exact spec_PartPlan.mono _ _ _ _)
      | (with_reducible exact spec_RisingPlan.mono _ _ _ _)
      | (with_reducible exact LeO.refl _)
      | (with_reducible exact LeO.none _)
      | (with_reducible refine LeO.ite ?_ ?_)
      | (with_reducible refine LeO.bind ?_ (fun _ => ?_))
      | exact ih0 _ _ _ _ _ _ _ _ _
      | exact ih1 _
      | exact ih2 _ _ _ _ _ _ _ _ _ _ _ _ _ _ _ _ _ _ _ _ _ _
      | exact ih3 _ _ _ _ _ _ _ _ _ _ _ _ _ _ _ _
      | exact ih4 _ _ _ _ _ _ _ _ _ _ _
      | exact ih5 _ _ _ _ _
      | exact ih6 _ _ _ _ _ _ _
      | exact ih7 _ _ _ _ _ _ _ _ _ _
      | exact ih8 _ _ _ _ _ _ _ _ _ _ _
      | exact ih9 _ _ _ _ _ _ _ _ _ _ _ _ _ _ _ _
      | exact ih10 _ _ _ _ _ _ _ _ _ _ _ _ _ _ _ _ _ _ _ _
      | exact ih11 _ _ _ _ _ _ _ _ _ _ _ _ _ _ _ _ _ _ _ _ _ _
      | exact ih12 _ _ _ _ _
      | exact ih13 _ _ _ _ _ _ _
      | exact impl_AfterParts.mono _ _ _ _
      | exact impl_DaysOfParts.mono _ _ _ _
      | exact impl_EvenPlan.mono _ _ _ _
      | exact impl_FirstForRising.mono _ _ _ _
      | exact impl_PartPlan.mono _ _ _ _
      | exact impl_RisingPlan.mono _ _ _ _
      | exact laws_xSame.mono _ _ _
      | exact laws_xSum.mono _ _
      | exact spec_AfterParts.mono _ _ _ _
      | exact spec_DaysOfParts.mono _ _ _ _
      | exact spec_DrawAfterParts.mono _ _
      | exact spec_EvenPlan.mono _ _ _ _
      | exact spec_FirstForRising.mono _ _ _ _
      | exact spec_PartPlan.mono _ _ _ _
      | exact spec_RisingPlan.mono _ _ _ _
      | exact LeO.none _
      | refine LeO.ite ?_ ?_
      | refine LeO.bind ?_ (fun _ => ?_)
    · intro y0 y1 y2 y3 y4
      unfold laws_FnReadersPlan.j1
      repeat' first
      | (with_reducible exact ih0 _ _ _ _ _ _ _ _ _)
      | (with_reducible exact ih1 _)
      | (with_reducible exact ih2 _ _ _ _ _ _ _ _ _ _ _ _ _ _ _ _ _ _ _ _ _ _)
      | (with_reducible exact ih3 _ _ _ _ _ _ _ _ _ _ _ _ _ _ _ _)
      | (with_reducible exact ih4 _ _ _ _ _ _ _ _ _ _ _)
      | (with_reducible exact ih5 _ _ _ _ _)
      | (with_reducible exact ih6 _ _ _ _ _ _ _)
      | (with_reducible exact ih7 _ _ _ _ _ _ _ _ _ _)
      | (with_reducible exact ih8 _ _ _ _ _ _ _ _ _ _ _)
      | (with_reducible exact ih9 _ _ _ _ _ _ _ _ _ _ _ _ _ _ _ _)
      | (with_reducible exact ih10 _ _ _ _ _ _ _ _ _ _ _ _ _ _ _ _ _ _ _ _)
      | (with_reducible exact ih11 _ _ _ _ _ _ _ _ _ _ _ _ _ _ _ _ _ _ _ _ _ _)
      | (with_reducible exact ih12 _ _ _ _ _)
      | (with_reducible exact ih13 _ _ _ _ _ _ _)
      | (with_reducible exact impl_AfterParts.mono _ _ _ _)
      | (with_reducible exact impl_DaysOfParts.mono _ _ _ _)
      | (with_reducible exact impl_EvenPlan.mono _ _ _ _)
      | (with_reducible exact impl_FirstForRising.mono _ _ _ _)
      | (with_reducible exact impl_PartPlan.mono _ _ _ _)
      | (with_reducible exact impl_RisingPlan.mono _ _ _ _)
      | (with_reducible exact laws_xSame.mono _ _ _)
      | (with_reducible exact laws_xSum.mono _ _)
      | (with_reducible exact spec_AfterParts.mono _ _ _ _)
      | (with_reducible exact spec_DaysOfParts.mono _ _ _ _)
      | (with_reducible exact spec_DrawAfterParts.mono _ _)
      | (with_reducible exact spec_EvenPlan.mono _ _ _ _)
      | (with_reducible exact spec_FirstForRising.mono _ _ _ _)
      | (with_reducible exact spec_PartPlan.mono _ _ _ _)
      | (with_reducible exact spec_RisingPlan.mono _ _ _ _)
      | (with_reducible exact LeO.refl _)
      | (with_reducible exact LeO.none _)
      | (with_reducible refine LeO.ite ?_ ?_)
      | (with_reducible refine LeO.bind ?_ (fun _ => ?_))
      | exact ih0 _ _ _ _ _ _ _ _ _
      | exact ih1 _
      | exact ih2 _ _ _ _ _ _ _ _ _ _ _ _ _ _ _ _ _ _ _ _ _ _
      | exact ih3 _ _ _ _ _ _ _ _ _ _ _ _ _ _ _ _
      | exact ih4 _ _ _ _ _ _ _ _ _ _ _
      | exact ih5 _ _ _ _ _
      | exact ih6 _ _ _ _ _ _ _
      | exact ih7 _ _ _ _ _ _ _ _ _ _
      | exact ih8 _ _ _ _ _ _ _ _ _ _ _
      | exact ih9 _ _ _ _ _ _ _ _ _ _ _ _ _ _ _ _
      | exact ih10 _ _ _ _ _ _ _ _ _ _ _ _ _ _ _ _ _ _ _ _
      | exact ih11 _ _ _ _ _ _ _ _ _ _ _ _ _ _ _ _ _ _ _ _ _ _
      | exact ih12 _ _ _ _ _
      | exact ih13 _ _ _ _ _ _ _
      | exact impl_AfterParts.mono _ _ _ _
      | exact impl_DaysOfParts.mono _ _ _ _
      | exact impl_EvenPlan.mono _ _ _ _
      | exact impl_FirstForRising.mono _ _ _ _
      | exact impl_PartPlan.mono _ _ _ _
      | exact impl_RisingPlan.mono _ _ _ _
      | exact laws_xSame.mono _ _ _
      | exact laws_xSum.mono _ _
      | exact spec_AfterParts.mono _ _ _ _
      | exact spec_DaysOfParts.mono _ _ _ _
      | exact spec_DrawAfterParts.mono _ _
      | exact spec_EvenPlan.mono _ _ _ _
      | exact spec_FirstForRising.mono _ _ _ _
      | exact spec_PartPlan.mono _ _ _ _
      | exact spec_RisingPlan.mono _ _ _ _
      | exact LeO.none _
      | refine LeO.ite ?_ ?_
      | refine LeO.bind ?_ (fun _ => ?_)
    · intro y0 y1 y2 y3 y4 y5 y6
      unfold laws_FnReadersPlan.l0
      repeat' first
      | (with_reducible exact ih0 _ _ _ _ _ _ _ _ _)
      | (with_reducible exact ih1 _)
      | (with_reducible exact ih2 _ _ _ _ _ _ _ _ _ _ _ _ _ _ _ _ _ _ _ _ _ _)
      | (with_reducible exact ih3 _ _ _ _ _ _ _ _ _ _ _ _ _ _ _ _)
      | (with_reducible exact ih4 _ _ _ _ _ _ _ _ _ _ _)
      | (with_reducible exact ih5 _ _ _ _ _)
      | (with_reducible exact ih6 _ _ _ _ _ _ _)
      | (with_reducible exact ih7 _ _ _ _ _ _ _ _ _ _)
      | (with_reducible exact ih8 _ _ _ _ _ _ _ _ _ _ _)
      | (with_reducible exact ih9 _ _ _ _ _ _ _ _ _ _ _ _ _ _ _ _)
      | (with_reducible exact ih10 _ _ _ _ _ _ _ _ _ _ _ _ _ _ _ _ _ _ _ _)
      | (with_reducible exact ih11 _ _ _ _ _ _ _ _ _ _ _ _ _ _ _ _ _ _ _ _ _ _)
      | (with_reducible exact ih12 _ _ _ _ _)
      | (with_reducible exact ih13 _ _ _ _ _ _ _)
      | (with_reducible exact impl_AfterParts.mono _ _ _ _)
      | (with_reducible exact impl_DaysOfParts.mono _ _ _ _)
      | (with_reducible exact impl_EvenPlan.mono _ _ _ _)
      | (with_reducible exact impl_FirstForRising.mono _ _ _ _)
      | (with_reducible exact impl_PartPlan.mono _ _ _ _)
      | (with_reducible exact impl_RisingPlan.mono _ _ _ _)
      | (with_reducible exact laws_xSame.mono _ _ _)
      | (with_reducible exact laws_xSum.mono _ _)
      | (with_reducible exact spec_AfterParts.mono _ _ _ _)
      | (with_reducible exact spec_DaysOfParts.mono _ _ _ _)
      | (with_reducible exact spec_DrawAfterParts.mono _ _)
      | (with_reducible exact spec_EvenPlan.mono _ _ _ _)
      | (with_reducible exact spec_FirstForRising.mono _ _ _ _)
      | (with_reducible exact spec_PartPlan.mono _ _ _ _)
      | (with_reducible exact spec_RisingPlan.mono _ _ _ _)
      | (with_reducible exact LeO.refl _)
      | (with_reducible exact LeO.none _)
      | (with_reducible refine LeO.ite ?_ ?_)
      | (with_reducible refine LeO.bind ?_ (fun _ => ?_))
      | exact ih0 _ _ _ _ _ _ _ _ _
      | exact ih1 _
      | exact ih2 _ _ _ _ _ _ _ _ _ _ _ _ _ _ _ _ _ _ _ _ _ _
      | exact ih3 _ _ _ _ _ _ _ _ _ _ _ _ _ _ _ _
      | exact ih4 _ _ _ _ _ _ _ _ _ _ _
      | exact ih5 _ _ _ _ _
      | exact ih6 _ _ _ _ _ _ _
      | exact ih7 _ _ _ _ _ _ _ _ _ _
      | exact ih8 _ _ _ _ _ _ _ _ _ _ _
      | exact ih9 _ _ _ _ _ _ _ _ _ _ _ _ _ _ _ _
      | exact ih10 _ _ _ _ _ _ _ _ _ _ _ _ _ _ _ _ _ _ _ _
      | exact ih11 _ _ _ _ _ _ _ _ _ _ _ _ _ _ _ _ _ _ _ _ _ _
      | exact ih12 _ _ _ _ _
      | exact ih13 _ _ _ _ _ _ _
      | exact impl_AfterParts.mono _ _ _ _
      | exact impl_DaysOfParts.mono _ _ _ _
      | exact impl_EvenPlan.mono _ _ _ _
      | exact impl_FirstForRising.mono _ _ _ _
      | exact impl_PartPlan.mono _ _ _ _
      | exact impl_RisingPlan.mono _ _ _ _
      | exact laws_xSame.mono _ _ _
      | exact laws_xSum.mono _ _
      | exact spec_AfterParts.mono _ _ _ _
      | exact spec_DaysOfParts.mono _ _ _ _
      | exact spec_DrawAfterParts.mono _ _
      | exact spec_EvenPlan.mono _ _ _ _
      | exact spec_FirstForRising.mono _ _ _ _
      | exact spec_PartPlan.mono _ _ _ _
      | exact spec_RisingPlan.mono _ _ _ _
      | exact LeO.none _
      | refine LeO.ite ?_ ?_
      | refine LeO.bind ?_ (fun _ => ?_)
theorem laws_FnReadersPlan.mono : ∀ a0 a1 k, LeO (laws_FnReadersPlan.f k a0 a1) (laws_FnReadersPlan.f (k + 1) a0 a1) := by
  intro a0 a1 k
  obtain ⟨ih0, ih1, ih2, ih3, ih4, ih5, ih6, ih7, ih8, ih9, ih10, ih11, ih12, ih13⟩ := laws_FnReadersPlan.mono_l k
  unfold laws_FnReadersPlan.f
  repeat' first
      | (with_reducible exact ih0 _ _ _ _ _ _ _ _ _)
      | (with_reducible exact ih1 _)
      | (with_reducible exact ih2 _ _ _ _ _ _ _ _ _ _ _ _ _ _ _ _ _ _ _ _ _ _)
      | (with_reducible exact ih3 _ _ _ _ _ _ _ _ _ _ _ _ _ _ _ _)
      | (with_reducible exact ih4 _ _ _ _ _ _ _ _ _ _ _)
      | (with_reducible exact ih5 _ _ _ _ _)
      | (with_reducible exact ih6 _ _ _ _ _ _ _)
      | (with_reducible exact ih7 _ _ _ _ _ _ _ _ _ _)
      | (with_reducible exact ih8 _ _ _ _ _ _ _ _ _ _ _)
      | (with_reducible exact ih9 _ _ _ _ _ _ _ _ _ _ _ _ _ _ _ _)
      | (with_reducible exact ih10 _ _ _ _ _ _ _ _ _ _ _ _ _ _ _ _ _ _ _ _)
      | (with_reducible exact ih11 _ _ _ _ _ _ _ _ _ _ _ _ _ _ _ _ _ _ _ _ _ _)
      | (with_reducible exact ih12 _ _ _ _ _)
      | (with_reducible exact ih13 _ _ _ _ _ _ _)
      | (with_reducible exact impl_AfterParts.mono _ _ _ _)
      | (with_reducible exact impl_DaysOfParts.mono _ _ _ _)
      | (with_reducible exact impl_EvenPlan.mono _ _ _ _)
      | (with_reducible exact impl_FirstForRising.mono _ _ _ _)
      | (with_reducible exact impl_PartPlan.mono _ _ _ _)
      | (with_reducible exact impl_RisingPlan.mono _ _ _ _)
      | (with_reducible exact laws_xSame.mono _ _ _)
      | (with_reducible exact laws_xSum.mono _ _)
      | (with_reducible exact spec_AfterParts.mono _ _ _ _)
      | (with_reducible exact spec_DaysOfParts.mono _ _ _ _)
      | (with_reducible exact spec_DrawAfterParts.mono _ _)
      | (with_reducible exact spec_EvenPlan.mono _ _ _ _)
      | (with_reducible exact spec_FirstForRising.mono _ _ _ _)
      | (with_reducible exact spec_PartPlan.mono _ _ _ _)
      | (with_reducible exact spec_RisingPlan.mono _ _ _ _)
      | (with_reducible exact LeO.refl _)
      | (with_reducible exact LeO.none _)
      | (with_reducible refine LeO.ite ?_ ?_)
      | (with_reducible refine LeO.bind ?_ (fun _ => ?_))
      | exact ih0 _ _ _ _ _ _ _ _ _
      | exact ih1 _
      | exact ih2 _ _ _ _ _ _ _ _ _ _ _ _ _ _ _ _ _ _ _ _ _ _
      | exact ih3 _ _ _ _ _ _ _ _ _ _ _ _ _ _ _ _
      | exact ih4 _ _ _ _ _ _ _ _ _ _ _
      | exact ih5 _ _ _ _ _
      | exact ih6 _ _ _ _ _ _ _
      | exact ih7 _ _ _ _ _ _ _ _ _ _
      | exact ih8 _ _ _ _ _ _ _ _ _ _ _
      | exact ih9 _ _ _ _ _ _ _ _ _ _ _ _ _ _ _ _
      | exact ih10 _ _ _ _ _ _ _ _ _ _ _ _ _ _ _ _ _ _ _ _
      | exact ih11 _ _ _ _ _ _ _ _ _ _ _ _ _ _ _ _ _ _ _ _ _ _
      | exact ih12 _ _ _ _ _
      | exact ih13 _ _ _ _ _ _ _
      | exact impl_AfterParts.mono _ _ _ _
      | exact impl_DaysOfParts.mono _ _ _ _
      | exact impl_EvenPlan.mono _ _ _ _
      | exact impl_FirstForRising.mono _ _ _ _
      | exact impl_PartPlan.mono _ _ _ _
      | exact impl_RisingPlan.mono _ _ _ _
      | exact laws_xSame.mono _ _ _
      | exact laws_xSum.mono _ _
      | exact spec_AfterParts.mono _ _ _ _
      | exact spec_DaysOfParts.mono _ _ _ _
      | exact spec_DrawAfterParts.mono _ _
      | exact spec_EvenPlan.mono _ _ _ _
      | exact spec_FirstForRising.mono _ _ _ _
      | exact spec_PartPlan.mono _ _ _ _
      | exact spec_RisingPlan.mono _ _ _ _
      | exact LeO.none _
      | refine LeO.ite ?_ ?_
      | refine LeO.bind ?_ (fun _ => ?_)
end Go.Proofs.Ytllakpmepfeinaa.XFnReadersPlan
