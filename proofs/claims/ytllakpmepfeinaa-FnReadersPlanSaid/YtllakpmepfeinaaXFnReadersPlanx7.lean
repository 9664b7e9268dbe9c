-- Written by a program of this session: the machine side of the law FnReadersPlan, with contracts proved by hand for what the kit's print doesn't take. Lean checks it.
import Derived.Test.YtllakpmepfeinaaXFnReadersPlanx0
import Derived.Test.YtllakpmepfeinaaXFnReadersPlanx1
import Derived.Test.YtllakpmepfeinaaXFnReadersPlanx4
import Derived.Test.YtllakpmepfeinaaXFnReadersPlanx6
namespace Go.Proofs.Ytllakpmepfeinaa.XFnReadersPlan
open Go.RowKit Go.Proofs.YtllakpmepfeinaaW.PrintWords Go.Proofs.YtllakpmepfeinaaW.PrintLast Go.Proofs.YtllakpmepfeinaaW.PrintMore
attribute [local go_sem] max2_int min2_int max_two min_two max_three min_three max_four min_four   -- for this text's walks alone
set_option linter.unusedVariables false
set_option linter.unusedSimpArgs false

/-! ### spec_AfterParts: function 25 -/
mutual
def spec_AfterParts.j0 : Nat → Int → List (List Int) → List Int → Bool → Option (Int × Bool)
  | 0, _, _, _, _ => none
  | k + 1, x0, x1, x2, x32 => if x32 = true then (some (0, false)) else (spec_AfterParts.l0 k x0 x1 x2 x1 (x1.length : Int) 0)
def spec_AfterParts.l0 : Nat → Int → List (List Int) → List Int → List (List Int) → Int → Int → Option (Int × Bool)
  | 0, _, _, _, _, _, _ => none
  | k + 1, x0, x1, x2, x33, x34, x35 => if x35 < x34 then (if 0 ≤ x35 then (if x35 < (x33.length : Int) then (if ((rd_L2 x33 x35).length : Int) = 2 then (if 0 < ((rd_L2 x33 x35).length : Int) then (if 1 < ((rd_L2 x33 x35).length : Int) then ((spec_rdPart.f (rd (rd_L2 x33 x35) 0) (rd (rd_L2 x33 x35) 1)).bind fun t424 => (if t424 = true then (spec_AfterParts.l0 k x0 x1 x2 x33 x34 (wrap64 (x35 + 1))) else (some (0, false)))) else (none)) else (none)) else (some (0, false))) else (none)) else (none)) else (spec_AfterParts.l1 k x0 x1 x2 (wrap64 ((x1.length : Int) - 1)))
def spec_AfterParts.l1 : Nat → Int → List (List Int) → List Int → Int → Option (Int × Bool)
  | 0, _, _, _, _ => none
  | k + 1, x0, x1, x2, x10 => if x10 ≥ 0 then (if 0 ≤ x10 then (if x10 < (x2.length : Int) then (if x10 < (x1.length : Int) then (if 1 < ((rd_L2 x1 x10).length : Int) then (if 0 < ((rd_L2 x1 x10).length : Int) then (if (wrap64 ((rd (rd_L2 x1 x10) 1) - (rd (rd_L2 x1 x10) 0))) = 0 then (none) else (if (Int.tmod (wrap64 ((wrap64 (x0 + (rd x2 x10))) * (rd (rd_L2 x1 x10) 1))) (wrap64 ((rd (rd_L2 x1 x10) 1) - (rd (rd_L2 x1 x10) 0)))) = 0 then (if (rd (rd_L2 x1 x10) 1) = 0 then (none) else (if (Int.tmod (wrap64 ((wrap64 (Int.tdiv (wrap64 ((wrap64 (x0 + (rd x2 x10))) * (rd (rd_L2 x1 x10) 1))) (wrap64 ((rd (rd_L2 x1 x10) 1) - (rd (rd_L2 x1 x10) 0))))) * (rd (rd_L2 x1 x10) 0))) (rd (rd_L2 x1 x10) 1)) = 0 then (if (wrap64 (Int.tdiv (wrap64 ((wrap64 (x0 + (rd x2 x10))) * (rd (rd_L2 x1 x10) 1))) (wrap64 ((rd (rd_L2 x1 x10) 1) - (rd (rd_L2 x1 x10) 0))))) > 2000 then (some (0, false)) else (spec_AfterParts.l1 k (wrap64 (Int.tdiv (wrap64 ((wrap64 (x0 + (rd x2 x10))) * (rd (rd_L2 x1 x10) 1))) (wrap64 ((rd (rd_L2 x1 x10) 1) - (rd (rd_L2 x1 x10) 0))))) x1 x2 (wrap64 (x10 - 1)))) else (some (0, false)))) else (some (0, false)))) else (none)) else (none)) else (none)) else (none)) else (none)) else (some (x0, true))
end
def spec_AfterParts.f (k : Nat) (a0 : Int) (l1 : List (List Int)) (l2 : List Int) : Option (Int × Bool) := (spec_l1In.f a0 0 2000).bind fun t419 => (if t419 = true then (if (l1.length : Int) > 6 then (spec_AfterParts.j0 k a0 l1 l2 true) else (if (l1.length : Int) = (l2.length : Int) then ((spec_l1All.f k l2 0 200).bind fun t420 => (spec_AfterParts.j0 k a0 l1 l2 (!t420))) else (spec_AfterParts.j0 k a0 l1 l2 true))) else (spec_AfterParts.j0 k a0 l1 l2 true))
theorem spec_AfterParts.mono_l : ∀ k, (∀ y0 y1 y2 y3, LeO (spec_AfterParts.j0 k y0 y1 y2 y3) (spec_AfterParts.j0 (k + 1) y0 y1 y2 y3)) ∧ (∀ y0 y1 y2 y3 y4 y5, LeO (spec_AfterParts.l0 k y0 y1 y2 y3 y4 y5) (spec_AfterParts.l0 (k + 1) y0 y1 y2 y3 y4 y5)) ∧ (∀ y0 y1 y2 y3, LeO (spec_AfterParts.l1 k y0 y1 y2 y3) (spec_AfterParts.l1 (k + 1) y0 y1 y2 y3))
  | 0 => ⟨fun _ _ _ _ r h => by simp [spec_AfterParts.j0] at h, fun _ _ _ _ _ _ r h => by simp [spec_AfterParts.l0] at h, fun _ _ _ _ r h => by simp [spec_AfterParts.l1] at h⟩
  | k + 1 => by
    obtain ⟨ih0, ih1, ih2⟩ := spec_AfterParts.mono_l k
    refine ⟨?_, ?_, ?_⟩
    · intro y0 y1 y2 y3
      unfold spec_AfterParts.j0
      repeat' first
      | (with_reducible exact ih0 _ _ _ _)
      | (with_reducible exact ih1 _ _ _ _ _ _)
      | (with_reducible exact ih2 _ _ _ _)
      | (with_reducible exact spec_l1All.mono _ _ _ _)
      | (with_reducible exact LeO.refl _)
      | (with_reducible exact LeO.none _)
      | (with_reducible refine LeO.ite ?_ ?_)
      | (with_reducible refine LeO.bind ?_ (fun _ => ?_))
      | exact ih0 _ _ _ _
      | exact ih1 _ _ _ _ _ _
      | exact ih2 _ _ _ _
      | exact spec_l1All.mono _ _ _ _
      | exact LeO.none _
      | refine LeO.ite ?_ ?_
      | refine LeO.bind ?_ (fun _ => ?_)
    · intro y0 y1 y2 y3 y4 y5
      unfold spec_AfterParts.l0
      repeat' first
      | (with_reducible exact ih0 _ _ _ _)
      | (with_reducible exact ih1 _ _ _ _ _ _)
      | (with_reducible exact ih2 _ _ _ _)
      | (with_reducible exact spec_l1All.mono _ _ _ _)
      | (with_reducible exact LeO.refl _)
      | (with_reducible exact LeO.none _)
      | (with_reducible refine LeO.ite ?_ ?_)
      | (with_reducible refine LeO.bind ?_ (fun _ => ?_))
      | exact ih0 _ _ _ _
      | exact ih1 _ _ _ _ _ _
      | exact ih2 _ _ _ _
      | exact spec_l1All.mono _ _ _ _
      | exact LeO.none _
      | refine LeO.ite ?_ ?_
      | refine LeO.bind ?_ (fun _ => ?_)
    · intro y0 y1 y2 y3
      unfold spec_AfterParts.l1
      repeat' first
      | (with_reducible exact ih0 _ _ _ _)
      | (with_reducible exact ih1 _ _ _ _ _ _)
      | (with_reducible exact ih2 _ _ _ _)
      | (with_reducible exact spec_l1All.mono _ _ _ _)
      | (with_reducible exact LeO.refl _)
      | (with_reducible exact LeO.none _)
      | (with_reducible refine LeO.ite ?_ ?_)
      | (with_reducible refine LeO.bind ?_ (fun _ => ?_))
      | exact ih0 _ _ _ _
      | exact ih1 _ _ _ _ _ _
      | exact ih2 _ _ _ _
      | exact spec_l1All.mono _ _ _ _
      | exact LeO.none _
      | refine LeO.ite ?_ ?_
      | refine LeO.bind ?_ (fun _ => ?_)
theorem spec_AfterParts.mono : ∀ a0 a1 a2 k, LeO (spec_AfterParts.f k a0 a1 a2) (spec_AfterParts.f (k + 1) a0 a1 a2) := by
  intro a0 a1 a2 k
  obtain ⟨ih0, ih1, ih2⟩ := spec_AfterParts.mono_l k
  unfold spec_AfterParts.f
  repeat' first
      | (with_reducible exact ih0 _ _ _ _)
      | (with_reducible exact ih1 _ _ _ _ _ _)
      | (with_reducible exact ih2 _ _ _ _)
      | (with_reducible exact spec_l1All.mono _ _ _ _)
      | (with_reducible exact LeO.refl _)
      | (with_reducible exact LeO.none _)
      | (with_reducible refine LeO.ite ?_ ?_)
      | (with_reducible refine LeO.bind ?_ (fun _ => ?_))
      | exact ih0 _ _ _ _
      | exact ih1 _ _ _ _ _ _
      | exact ih2 _ _ _ _
      | exact spec_l1All.mono _ _ _ _
      | exact LeO.none _
      | refine LeO.ite ?_ ?_
      | refine LeO.bind ?_ (fun _ => ?_)
set_option maxHeartbeats 8000000 in
set_option maxRecDepth 100000 in
theorem spec_AfterParts.calls (k : Nat) (a0 : Int) (A1 : Option Addr) (c1 : Nat) (l1 : List (List Int)) (A2 : Option Addr) (c2 : Nat) (l2 : List Int) (r1 : Int) (r2 : Bool) (w : World) (hr1 : Kd.C (Kd.slice 3 (Kd.int .i64)) w A1 l1.length l1) (hc1 : l1.length ≤ c1) (hr2 : Kd.C (Kd.int .i64) w A2 l2.length l2) (hc2 : l2.length ≤ c2) (h : spec_AfterParts.f k a0 l1 l2 = some (r1, r2)) :
    Calls Try.prog 25 #[.int .i64 a0, .slice A1 l1.length c1, .slice A2 l2.length c2] w fun e w' => e = .returned (.tuple #[.int .i64 r1, .bool r2]) ∧ Drawn0 w w' := by
 have HR1:=zI hr1;have HC1:=zI hc1;clear hr1 hc1;have HR2:=zI hr2;have HC2:=zI hc2;clear hr2 hc2
 have H : ((spec_l1In.f a0 0 2000).bind fun t419=>(if t419 = true then (if (l1.length : Int) > 6 then (spec_AfterParts.j0 k a0 l1 l2 true) else (if (l1.length : Int) = (l2.length : Int) then ((spec_l1All.f k l2 0 200).bind fun t420=>(spec_AfterParts.j0 k a0 l1 l2 (!t420))) else (spec_AfterParts.j0 k a0 l1 l2 true))) else (spec_AfterParts.j0 k a0 l1 l2 true))) = some (r1,r2):=h
 clear h;have HC4:=zI H;clear H
 go_enter Try.func25,Try.ntmps25
 go_upto_region 1 with (fail)
 repeat (go_quiet (fail);go_upto_region 1 with (fail))
 go_cut [32] (fun v32 wc=>∃ (kq : Nat) (x32_3 : Bool),v32 = .bool x32_3 ∧ Aside0 (spec_AfterParts.j0 kq a0 l1 l2 x32_3 = some (r1,r2)) ∧ Aside0 (kq ≤ k) ∧ Drawn0 w wc)
 case first =>
  have H:=HC4.out;clear HC4;replace H:=Option.bind_eq_some_iff.mp H
  obtain ⟨t419,A50,H⟩:=H
  replace H : (if t419 = true then (if (l1.length : Int) > 6 then (spec_AfterParts.j0 k a0 l1 l2 true) else (if (l1.length : Int) = (l2.length : Int) then ((spec_l1All.f k l2 0 200).bind fun t420=>(spec_AfterParts.j0 k a0 l1 l2 (!t420))) else (spec_AfterParts.j0 k a0 l1 l2 true))) else (spec_AfterParts.j0 k a0 l1 l2 true)) = some (r1,r2):=H
  have A5:=zI A50;clear A50
  by_cases c6 : t419 = true
  rotate_left
  · replace c6:=Bool.eq_false_iff.mpr c6
    subst c6
    have H1 : (spec_AfterParts.j0 k a0 l1 l2 true) = some (r1,r2):=by rw [if_neg (show ¬ (false = true) by decide)] at H;exact H
    clear H;have H:=H1;clear H1;have H':=zI H;clear H
    go_wp2_with (first|(go_at_call 37;(with_reducible refine (spec_l1In.calls a0 0 2000 false _ A5.out).mono ?_);rintro e w' ⟨rfl,⟨nd,rfl⟩⟩;(try first|exact ⟨rfl,_,zL _ _ _⟩|exact ⟨rfl,_,Eq.trans (zL _ _ _) (congrArg (World.drewN _) (Nat.add_assoc _ _ _))⟩)))
    repeat (go_quiet (first|(go_at_call 37;(with_reducible refine (spec_l1In.calls a0 0 2000 false _ A5.out).mono ?_);rintro e w' ⟨rfl,⟨nd,rfl⟩⟩;(try first|exact ⟨rfl,_,zL _ _ _⟩|exact ⟨rfl,_,Eq.trans (zL _ _ _) (congrArg (World.drewN _) (Nat.add_assoc _ _ _))⟩)));try go_wp2_with (first|(go_at_call 37;(with_reducible refine (spec_l1In.calls a0 0 2000 false _ A5.out).mono ?_);rintro e w' ⟨rfl,⟨nd,rfl⟩⟩;(try first|exact ⟨rfl,_,zL _ _ _⟩|exact ⟨rfl,_,Eq.trans (zL _ _ _) (congrArg (World.drewN _) (Nat.add_assoc _ _ _))⟩))))
    go_meet
    case rel=>exact ⟨_,(true),(by first|rfl|(simp;done)|(simp [*];done)),H',⟨by first|omega|exact Nat.le_refl _⟩,by repeat (first|exact Drawn0.refl _|apply Drawn0.step)⟩
  subst c6
  have H1 : (if (l1.length : Int) > 6 then (spec_AfterParts.j0 k a0 l1 l2 true) else (if (l1.length : Int) = (l2.length : Int) then ((spec_l1All.f k l2 0 200).bind fun t420=>(spec_AfterParts.j0 k a0 l1 l2 (!t420))) else (spec_AfterParts.j0 k a0 l1 l2 true))) = some (r1,r2):=by rw [if_pos rfl] at H;exact H
  clear H;have H:=H1;clear H1
  by_cases c7 : (l1.length : Int) > 6
  · rw [if_pos c7] at H
    have c7b0 : decide (6 < (l1.length : Int)) = true:=decide_eq_true c7
    have c7b1 : decide (6 < l1.length) = true:=decide_eq_true (by omega)
    clear c7
    (first|rw [c7b0]|(simp only [i64_w,i32_w];rw [c7b0])|skip)
    have H':=zI H;clear H
    go_wp2_with (first|(go_at_call 37;(with_reducible refine (spec_l1In.calls a0 0 2000 true _ A5.out).mono ?_);rintro e w' ⟨rfl,⟨nd,rfl⟩⟩;(try first|exact ⟨rfl,_,zL _ _ _⟩|exact ⟨rfl,_,Eq.trans (zL _ _ _) (congrArg (World.drewN _) (Nat.add_assoc _ _ _))⟩)))
    repeat (go_quiet (first|(go_at_call 37;(with_reducible refine (spec_l1In.calls a0 0 2000 true _ A5.out).mono ?_);rintro e w' ⟨rfl,⟨nd,rfl⟩⟩;(try first|exact ⟨rfl,_,zL _ _ _⟩|exact ⟨rfl,_,Eq.trans (zL _ _ _) (congrArg (World.drewN _) (Nat.add_assoc _ _ _))⟩)));try go_wp2_with (first|(go_at_call 37;(with_reducible refine (spec_l1In.calls a0 0 2000 true _ A5.out).mono ?_);rintro e w' ⟨rfl,⟨nd,rfl⟩⟩;(try first|exact ⟨rfl,_,zL _ _ _⟩|exact ⟨rfl,_,Eq.trans (zL _ _ _) (congrArg (World.drewN _) (Nat.add_assoc _ _ _))⟩))))
    go_meet
    case rel=>exact ⟨_,(true),(by first|rfl|(simp;done)|(simp [*];done)),H',⟨by first|omega|exact Nat.le_refl _⟩,by repeat (first|exact Drawn0.refl _|apply Drawn0.step)⟩
  rw [if_neg c7] at H
  have c7b0 : decide (6 < (l1.length : Int)) = false:=decide_eq_false c7
  have c7b1 : decide (6 < l1.length) = false:=decide_eq_false (by omega)
  clear c7
  (first|rw [c7b0]|(simp only [i64_w,i32_w];rw [c7b0])|skip)
  by_cases c8 : (l1.length : Int) = (l2.length : Int)
  rotate_left
  · rw [if_neg c8] at H
    have c8b0 : ((l1.length : Int) == (l2.length : Int)) = false:=beq_eq_false_iff_ne.mpr c8
    have c8b1 : ((l1.length : Int) != (l2.length : Int)) = true:=bne_iff_ne.mpr c8
    have c8b2 : (l1.length == l2.length) = false:=by first|simpa using c8|(simp at c8 ⊢;omega)
    have H':=zI H;clear H
    go_wp2_with (first|(go_at_call 37;(with_reducible refine (spec_l1In.calls a0 0 2000 true _ A5.out).mono ?_);rintro e w' ⟨rfl,⟨nd,rfl⟩⟩;(try first|exact ⟨rfl,_,zL _ _ _⟩|exact ⟨rfl,_,Eq.trans (zL _ _ _) (congrArg (World.drewN _) (Nat.add_assoc _ _ _))⟩)))
    repeat (go_quiet (first|(go_at_call 37;(with_reducible refine (spec_l1In.calls a0 0 2000 true _ A5.out).mono ?_);rintro e w' ⟨rfl,⟨nd,rfl⟩⟩;(try first|exact ⟨rfl,_,zL _ _ _⟩|exact ⟨rfl,_,Eq.trans (zL _ _ _) (congrArg (World.drewN _) (Nat.add_assoc _ _ _))⟩)));try go_wp2_with (first|(go_at_call 37;(with_reducible refine (spec_l1In.calls a0 0 2000 true _ A5.out).mono ?_);rintro e w' ⟨rfl,⟨nd,rfl⟩⟩;(try first|exact ⟨rfl,_,zL _ _ _⟩|exact ⟨rfl,_,Eq.trans (zL _ _ _) (congrArg (World.drewN _) (Nat.add_assoc _ _ _))⟩))))
    go_meet
    case rel=>exact ⟨_,(true),(by first|rfl|(simp;done)|(simp [*];done)),H',⟨by first|omega|exact Nat.le_refl _⟩,by repeat (first|exact Drawn0.refl _|apply Drawn0.step)⟩
  rw [if_pos c8] at H
  have c8b0 : ((l1.length : Int) == (l2.length : Int)) = true:=beq_iff_eq.mpr c8
  have c8b1 : ((l1.length : Int) != (l2.length : Int)) = false:=bne_eq_false_iff_eq.mpr c8
  have c8b2 : (l1.length == l2.length) = true:=by first|simpa using c8|(simp at c8 ⊢;omega)
  clear c8;replace H:=Option.bind_eq_some_iff.mp H
  obtain ⟨t420,A90,H⟩:=H
  replace H : (spec_AfterParts.j0 k a0 l1 l2 (!t420)) = some (r1,r2):=H
  have A9:=zI A90;clear A90;have H':=zI H;clear H
  go_wp2_with (first|(go_at_call 37;(with_reducible refine (spec_l1In.calls a0 0 2000 true _ A5.out).mono ?_);rintro e w' ⟨rfl,⟨nd,rfl⟩⟩;(try first|exact ⟨rfl,_,zL _ _ _⟩|exact ⟨rfl,_,Eq.trans (zL _ _ _) (congrArg (World.drewN _) (Nat.add_assoc _ _ _))⟩))|(go_at_call 48;(with_reducible refine (spec_l1All.calls k _ _ l2 0 200 t420 _ ?side1 ?side2 A9.out).mono ?_);(case side1=>repeat (first|exact HR2.out|(with_reducible refine zQ ?_ _)|(with_reducible refine zR ?_ _)|(with_reducible refine zS ?_)));(case side2=>exact HC2.out);rintro e w' ⟨rfl,⟨nd,rfl⟩⟩;(try first|exact ⟨rfl,_,zL _ _ _⟩|exact ⟨rfl,_,Eq.trans (zL _ _ _) (congrArg (World.drewN _) (Nat.add_assoc _ _ _))⟩)))
  repeat (go_quiet (first|(go_at_call 37;(with_reducible refine (spec_l1In.calls a0 0 2000 true _ A5.out).mono ?_);rintro e w' ⟨rfl,⟨nd,rfl⟩⟩;(try first|exact ⟨rfl,_,zL _ _ _⟩|exact ⟨rfl,_,Eq.trans (zL _ _ _) (congrArg (World.drewN _) (Nat.add_assoc _ _ _))⟩))|(go_at_call 48;(with_reducible refine (spec_l1All.calls k _ _ l2 0 200 t420 _ ?side1 ?side2 A9.out).mono ?_);(case side1=>repeat (first|exact HR2.out|(with_reducible refine zQ ?_ _)|(with_reducible refine zR ?_ _)|(with_reducible refine zS ?_)));(case side2=>exact HC2.out);rintro e w' ⟨rfl,⟨nd,rfl⟩⟩;(try first|exact ⟨rfl,_,zL _ _ _⟩|exact ⟨rfl,_,Eq.trans (zL _ _ _) (congrArg (World.drewN _) (Nat.add_assoc _ _ _))⟩)));try go_wp2_with (first|(go_at_call 37;(with_reducible refine (spec_l1In.calls a0 0 2000 true _ A5.out).mono ?_);rintro e w' ⟨rfl,⟨nd,rfl⟩⟩;(try first|exact ⟨rfl,_,zL _ _ _⟩|exact ⟨rfl,_,Eq.trans (zL _ _ _) (congrArg (World.drewN _) (Nat.add_assoc _ _ _))⟩))|(go_at_call 48;(with_reducible refine (spec_l1All.calls k _ _ l2 0 200 t420 _ ?side1 ?side2 A9.out).mono ?_);(case side1=>repeat (first|exact HR2.out|(with_reducible refine zQ ?_ _)|(with_reducible refine zR ?_ _)|(with_reducible refine zS ?_)));(case side2=>exact HC2.out);rintro e w' ⟨rfl,⟨nd,rfl⟩⟩;(try first|exact ⟨rfl,_,zL _ _ _⟩|exact ⟨rfl,_,Eq.trans (zL _ _ _) (congrArg (World.drewN _) (Nat.add_assoc _ _ _))⟩))))
  go_meet
  case rel=>exact ⟨_,(!t420),(by first|rfl|(simp;done)|(simp [*];done)),H',⟨by first|omega|exact Nat.le_refl _⟩,by repeat (first|exact Drawn0.refl _|apply Drawn0.step)⟩
 case rest =>
  clear HC4
  (try clear c1);(try clear c2);(try clear p2);(try clear c6);(try clear c7);(try clear c7b0);(try clear c7b1);(try clear c8);(try clear c8b0);(try clear c8b1);(try clear c8b2)
  obtain ⟨kq,x32_3,rfl,HA,HJ3,⟨mc3,rfl⟩⟩:=hcut
  cases kq with
  | zero=>exact absurd HA.out (by simp [spec_AfterParts.j0])
  | succ kj3 =>
   have H:=HA.out;clear HA
   simp only [spec_AfterParts.j0] at H
   by_cases c10 : x32_3 = true
   · subst c10
     have H1 : (some (0,false)) = some (r1,r2):=by rw [if_pos rfl] at H;exact H
     clear H;have H:=H1;clear H1
     simp only [Option.some.injEq,Prod.mk.injEq] at H
     obtain ⟨rfl,rfl⟩:=H
     go_wp2
     repeat (go_quiet (fail);try go_wp2)
     go_ret2
     exact ⟨by first|rfl|(simp;done)|(simp [*];done),by repeat (first|exact Drawn0.refl _|apply Drawn0.step)⟩
   replace c10:=Bool.eq_false_iff.mpr c10
   subst c10
   have H1 : (spec_AfterParts.l0 kj3 a0 l1 l2 l1 (l1.length : Int) 0) = some (r1,r2):=by rw [if_neg (show ¬ (false = true) by decide)] at H;exact H
   clear H;have H:=H1;clear H1;have H':=zI H;clear H
   go_wp2
   repeat (go_quiet (fail);try go_wp2)
   go_loopg [35] kj3 (fun kq v35 w'=>∃ (x35_2 : Int),v35 = .int .i64 x35_2 ∧ Aside0 (spec_AfterParts.l0 kq a0 l1 l2 l1 (l1.length : Int) x35_2 = some (r1,r2)) ∧ Aside0 (kq ≤ kj3) ∧ Drawn0 w w')
   case atStart=>exact ⟨(0),(by first|rfl|(simp;done)|(simp [*];done)),H',⟨Nat.le_refl _⟩,by repeat (first|exact Drawn0.refl _|apply Drawn0.step)⟩
   case round =>
    clear H'
    (try clear c1);(try clear c2);(try clear p2);(try clear c3);(try clear c6);(try clear c7);(try clear c7b0);(try clear c7b1);(try clear c8);(try clear c8b0);(try clear c8b1);(try clear c8b2);(try clear c10);(try clear p2)
    obtain ⟨x35_2,rfl,HA,HK2,⟨m2,rfl⟩⟩:=hrel
    cases gk with
    | zero=>exact absurd HA.out (by simp [spec_AfterParts.l0])
    | succ k2 =>
     have H:=HA.out;clear HA
     simp only [spec_AfterParts.l0] at H
     by_cases c11 : x35_2 < (l1.length : Int)
     · rw [if_pos c11] at H
       have c11b0 : decide (x35_2 < (l1.length : Int)) = true:=decide_eq_true c11
       clear c11
       by_cases c12 : 0 ≤ x35_2
       rotate_left
       · rw [if_neg c12] at H
         exact absurd H (by simp)
       rw [if_pos c12] at H
       have c12b0 : decide (0 ≤ x35_2) = true:=decide_eq_true c12
       clear c12
       by_cases c13 : x35_2 < (l1.length : Int)
       rotate_left
       · rw [if_neg c13] at H
         exact absurd H (by simp)
       rw [if_pos c13] at H
       have c13b0 : decide (x35_2 < (l1.length : Int)) = true:=decide_eq_true c13
       clear c13
       by_cases c14 : ((rd_L2 l1 x35_2).length : Int) = 2
       rotate_left
       · rw [if_neg c14] at H
         have c14b0 : (((rd_L2 l1 x35_2).length : Int) == 2) = false:=beq_eq_false_iff_ne.mpr c14
         have c14b1 : (((rd_L2 l1 x35_2).length : Int) != 2) = true:=bne_iff_ne.mpr c14
         simp only [Option.some.injEq,Prod.mk.injEq] at H
         obtain ⟨rfl,rfl⟩:=H
         have p421 : 0 ≤ (x35_2 : Int):=of_decide_eq_true (by first|(with_reducible assumption)|assumption)
         have q421 : x35_2 < (l1.length : Int):=of_decide_eq_true (by first|(with_reducible assumption)|assumption)
         obtain ⟨ad421,A421_0,c421_0,e421,hx421_0,hl421_0,hi421_0⟩:=at_L2 HR1.out x35_2 p421 q421
         cases e421
         have HR421_0:=zI hi421_0;have HC421_0:=zI hl421_0;clear hi421_0 hl421_0
         replace p421:=eq_true p421
         replace q421:=eq_true q421
         go_wp2
         repeat (go_quiet (fail);try go_wp2)
         go_ret2
         exact ⟨by first|rfl|(simp;done)|(simp [*];done),by repeat (first|exact Drawn0.refl _|apply Drawn0.step)⟩
       rw [if_pos c14] at H
       have c14b0 : (((rd_L2 l1 x35_2).length : Int) == 2) = true:=beq_iff_eq.mpr c14
       have c14b1 : (((rd_L2 l1 x35_2).length : Int) != 2) = false:=bne_eq_false_iff_eq.mpr c14
       clear c14
       by_cases c15 : 0 < ((rd_L2 l1 x35_2).length : Int)
       rotate_left
       · rw [if_neg c15] at H
         exact absurd H (by simp)
       rw [if_pos c15] at H
       have c15b0 : decide (0 < ((rd_L2 l1 x35_2).length : Int)) = true:=decide_eq_true c15
       have c15b1 : decide (0 < (rd_L2 l1 x35_2).length) = true:=decide_eq_true (by omega)
       clear c15
       by_cases c16 : 1 < ((rd_L2 l1 x35_2).length : Int)
       rotate_left
       · rw [if_neg c16] at H
         exact absurd H (by simp)
       rw [if_pos c16] at H
       have c16b0 : decide (1 < ((rd_L2 l1 x35_2).length : Int)) = true:=decide_eq_true c16
       have c16b1 : decide (1 < (rd_L2 l1 x35_2).length) = true:=decide_eq_true (by omega)
       clear c16;replace H:=Option.bind_eq_some_iff.mp H
       obtain ⟨t424,A170,H⟩:=H
       replace H : (if t424 = true then (spec_AfterParts.l0 k2 a0 l1 l2 l1 (l1.length : Int) (wrap64 (x35_2 + 1))) else (some (0,false))) = some (r1,r2):=H
       have A17:=zI A170;clear A170
       by_cases c18 : t424 = true
       rotate_left
       · replace c18:=Bool.eq_false_iff.mpr c18
         subst c18
         have H1 : (some (0,false)) = some (r1,r2):=by rw [if_neg (show ¬ (false = true) by decide)] at H;exact H
         clear H;have H:=H1;clear H1
         simp only [Option.some.injEq,Prod.mk.injEq] at H
         obtain ⟨rfl,rfl⟩:=H
         have p421 : 0 ≤ (x35_2 : Int):=of_decide_eq_true (by first|(with_reducible assumption)|assumption)
         have q421 : x35_2 < (l1.length : Int):=of_decide_eq_true (by first|(with_reducible assumption)|assumption)
         obtain ⟨ad421,A421_0,c421_0,e421,hx421_0,hl421_0,hi421_0⟩:=at_L2 HR1.out x35_2 p421 q421
         cases e421
         have HR421_0:=zI hi421_0;have HC421_0:=zI hl421_0;clear hi421_0 hl421_0
         replace p421:=eq_true p421
         replace q421:=eq_true q421
         have p422 : 0 ≤ (0 : Int):=(by omega)
         have q422 : 0 < ((rd_L2 l1 x35_2).length : Int):=of_decide_eq_true (by first|(with_reducible assumption)|assumption)
         obtain ⟨ad422,e422,hx422_0⟩:=Kd.at_int HR421_0.out 0 p422 q422
         cases e422
         have qi422 : (0 < (rd_L2 l1 x35_2).length) = True:=eq_true (by omega)
         (try rw [show ((0 : Int)).toNat = 0 from rfl] at hx422_0);(try rw [Addr.add_zero'] at hx422_0)
         replace p422:=eq_true p422
         replace q422:=eq_true q422
         have p423 : 0 ≤ (1 : Int):=(by omega)
         have q423 : 1 < ((rd_L2 l1 x35_2).length : Int):=of_decide_eq_true (by first|(with_reducible assumption)|assumption)
         obtain ⟨ad423,e423,hx423_0⟩:=Kd.at_int HR421_0.out 1 p423 q423
         obtain rfl : ad422 = ad423:=(by injection e423)
         (try simp only [show (1 : Int).toNat = 1 from rfl,Nat.reduceMul,Nat.reduceEqDiff,Go.Addr.add,↓reduceIte] at hx423_0)
         have qi423 : (1 < (rd_L2 l1 x35_2).length) = True:=eq_true (by omega)
         (try rw [show ((1 : Int)).toNat = 1 from rfl] at hx423_0)
         replace p423:=eq_true p423
         replace q423:=eq_true q423
         go_wp2_with (first|(go_at_call 43;(with_reducible refine (spec_rdPart.calls (rd (rd_L2 l1 x35_2) 0) (rd (rd_L2 l1 x35_2) 1) false _ A17.out).mono ?_);rintro e w' ⟨rfl,⟨nd,rfl⟩⟩;(try first|exact ⟨rfl,_,zL _ _ _⟩|exact ⟨rfl,_,Eq.trans (zL _ _ _) (congrArg (World.drewN _) (Nat.add_assoc _ _ _))⟩)))
         repeat (go_quiet (first|(go_at_call 43;(with_reducible refine (spec_rdPart.calls (rd (rd_L2 l1 x35_2) 0) (rd (rd_L2 l1 x35_2) 1) false _ A17.out).mono ?_);rintro e w' ⟨rfl,⟨nd,rfl⟩⟩;(try first|exact ⟨rfl,_,zL _ _ _⟩|exact ⟨rfl,_,Eq.trans (zL _ _ _) (congrArg (World.drewN _) (Nat.add_assoc _ _ _))⟩)));try go_wp2_with (first|(go_at_call 43;(with_reducible refine (spec_rdPart.calls (rd (rd_L2 l1 x35_2) 0) (rd (rd_L2 l1 x35_2) 1) false _ A17.out).mono ?_);rintro e w' ⟨rfl,⟨nd,rfl⟩⟩;(try first|exact ⟨rfl,_,zL _ _ _⟩|exact ⟨rfl,_,Eq.trans (zL _ _ _) (congrArg (World.drewN _) (Nat.add_assoc _ _ _))⟩))))
         go_ret2
         exact ⟨by first|rfl|(simp;done)|(simp [*];done),by repeat (first|exact Drawn0.refl _|apply Drawn0.step)⟩
       subst c18
       have H1 : (spec_AfterParts.l0 k2 a0 l1 l2 l1 (l1.length : Int) (wrap64 (x35_2 + 1))) = some (r1,r2):=by rw [if_pos rfl] at H;exact H
       clear H;have H:=H1;clear H1;have H':=zI H;clear H
       have p421 : 0 ≤ (x35_2 : Int):=of_decide_eq_true (by first|(with_reducible assumption)|assumption)
       have q421 : x35_2 < (l1.length : Int):=of_decide_eq_true (by first|(with_reducible assumption)|assumption)
       obtain ⟨ad421,A421_0,c421_0,e421,hx421_0,hl421_0,hi421_0⟩:=at_L2 HR1.out x35_2 p421 q421
       cases e421
       have HR421_0:=zI hi421_0;have HC421_0:=zI hl421_0;clear hi421_0 hl421_0
       replace p421:=eq_true p421
       replace q421:=eq_true q421
       have p422 : 0 ≤ (0 : Int):=(by omega)
       have q422 : 0 < ((rd_L2 l1 x35_2).length : Int):=of_decide_eq_true (by first|(with_reducible assumption)|assumption)
       obtain ⟨ad422,e422,hx422_0⟩:=Kd.at_int HR421_0.out 0 p422 q422
       cases e422
       have qi422 : (0 < (rd_L2 l1 x35_2).length) = True:=eq_true (by omega)
       (try rw [show ((0 : Int)).toNat = 0 from rfl] at hx422_0);(try rw [Addr.add_zero'] at hx422_0)
       replace p422:=eq_true p422
       replace q422:=eq_true q422
       have p423 : 0 ≤ (1 : Int):=(by omega)
       have q423 : 1 < ((rd_L2 l1 x35_2).length : Int):=of_decide_eq_true (by first|(with_reducible assumption)|assumption)
       obtain ⟨ad423,e423,hx423_0⟩:=Kd.at_int HR421_0.out 1 p423 q423
       obtain rfl : ad422 = ad423:=(by injection e423)
       (try simp only [show (1 : Int).toNat = 1 from rfl,Nat.reduceMul,Nat.reduceEqDiff,Go.Addr.add,↓reduceIte] at hx423_0)
       have qi423 : (1 < (rd_L2 l1 x35_2).length) = True:=eq_true (by omega)
       (try rw [show ((1 : Int)).toNat = 1 from rfl] at hx423_0)
       replace p423:=eq_true p423
       replace q423:=eq_true q423
       go_wp2_with (first|(go_at_call 43;(with_reducible refine (spec_rdPart.calls (rd (rd_L2 l1 x35_2) 0) (rd (rd_L2 l1 x35_2) 1) true _ A17.out).mono ?_);rintro e w' ⟨rfl,⟨nd,rfl⟩⟩;(try first|exact ⟨rfl,_,zL _ _ _⟩|exact ⟨rfl,_,Eq.trans (zL _ _ _) (congrArg (World.drewN _) (Nat.add_assoc _ _ _))⟩)))
       repeat (go_quiet (first|(go_at_call 43;(with_reducible refine (spec_rdPart.calls (rd (rd_L2 l1 x35_2) 0) (rd (rd_L2 l1 x35_2) 1) true _ A17.out).mono ?_);rintro e w' ⟨rfl,⟨nd,rfl⟩⟩;(try first|exact ⟨rfl,_,zL _ _ _⟩|exact ⟨rfl,_,Eq.trans (zL _ _ _) (congrArg (World.drewN _) (Nat.add_assoc _ _ _))⟩)));try go_wp2_with (first|(go_at_call 43;(with_reducible refine (spec_rdPart.calls (rd (rd_L2 l1 x35_2) 0) (rd (rd_L2 l1 x35_2) 1) true _ A17.out).mono ?_);rintro e w' ⟨rfl,⟨nd,rfl⟩⟩;(try first|exact ⟨rfl,_,zL _ _ _⟩|exact ⟨rfl,_,Eq.trans (zL _ _ _) (congrArg (World.drewN _) (Nat.add_assoc _ _ _))⟩))))
       go_roundg k2
       case measure=>have:=HJ3.out;have:=HK2.out;omega
       case rel=>exact ⟨(wrap64 (x35_2 + 1)),(by first|rfl|(simp;done)|(simp [*];done)),H',⟨by have:=HJ3.out;have:=HK2.out;omega⟩,by repeat (first|exact Drawn0.refl _|apply Drawn0.step)⟩
     rw [if_neg c11] at H
     have c11b0 : decide (x35_2 < (l1.length : Int)) = false:=decide_eq_false c11
     clear c11;have H':=zI H;clear H
     go_wp2
     repeat (go_quiet (fail);try go_wp2)
     go_loopg [0,10] k2 (fun kq v0 v10 w'=>∃ (x0_3 : Int) (x10_3 : Int),v0 = .int .i64 x0_3 ∧ v10 = .int .i64 x10_3 ∧ Aside0 (spec_AfterParts.l1 kq x0_3 l1 l2 x10_3 = some (r1,r2)) ∧ Aside0 (kq ≤ k2) ∧ Drawn0 w w')
     case atStart=>exact ⟨(a0),(wrap64 ((l1.length : Int) - 1)),(by first|rfl|(simp;done)|(simp [*];done)),(by first|rfl|(simp;done)|(simp [*];done)),H',⟨Nat.le_refl _⟩,by repeat (first|exact Drawn0.refl _|apply Drawn0.step)⟩
     case round =>
      clear H'
      (try clear c1);(try clear c2);(try clear p2);(try clear c3);(try clear c4);(try clear p4);(try clear q4);(try clear hx4);(try clear qi4);(try clear c6);(try clear p6);(try clear c7);(try clear c7b0);(try clear c7b1);(try clear c8);(try clear c8b0);(try clear c8b1);(try clear c8b2);(try clear c10);(try clear c11);(try clear c11b0);(try clear c12);(try clear c12b0);(try clear c13);(try clear c13b0);(try clear c14);(try clear c14b0);(try clear c14b1);(try clear c15);(try clear c15b0);(try clear c15b1);(try clear c16);(try clear c16b0);(try clear c16b1);(try clear c18);(try clear hx421_0);(try clear hx422_0);(try clear hx423_0);(try clear p2);(try clear p421);(try clear p422);(try clear p423);(try clear q421);(try clear q422);(try clear q423)
      obtain ⟨x0_3,x10_3,rfl,rfl,HA,HK3,⟨m3,rfl⟩⟩:=hrel
      cases gk with
      | zero=>exact absurd HA.out (by simp [spec_AfterParts.l1])
      | succ k3 =>
       have H:=HA.out;clear HA
       simp only [spec_AfterParts.l1] at H
       by_cases c19 : x10_3 ≥ 0
       rotate_left
       · rw [if_neg c19] at H
         have c19b0 : decide (0 ≤ x10_3) = false:=decide_eq_false c19
         clear c19
         simp only [Option.some.injEq,Prod.mk.injEq] at H
         obtain ⟨rfl,rfl⟩:=H
         go_wp2
         repeat (go_quiet (fail);try go_wp2)
         go_ret2
         exact ⟨by first|rfl|(simp;done)|(simp [*];done),by repeat (first|exact Drawn0.refl _|apply Drawn0.step)⟩
       rw [if_pos c19] at H
       have c19b0 : decide (0 ≤ x10_3) = true:=decide_eq_true c19
       clear c19
       by_cases c20 : 0 ≤ x10_3
       rotate_left
       · rw [if_neg c20] at H
         exact absurd H (by simp)
       rw [if_pos c20] at H
       have c20b0 : decide (0 ≤ x10_3) = true:=decide_eq_true c20
       clear c20
       by_cases c21 : x10_3 < (l2.length : Int)
       rotate_left
       · rw [if_neg c21] at H
         exact absurd H (by simp)
       rw [if_pos c21] at H
       have c21b0 : decide (x10_3 < (l2.length : Int)) = true:=decide_eq_true c21
       clear c21
       by_cases c22 : x10_3 < (l1.length : Int)
       rotate_left
       · rw [if_neg c22] at H
         exact absurd H (by simp)
       rw [if_pos c22] at H
       have c22b0 : decide (x10_3 < (l1.length : Int)) = true:=decide_eq_true c22
       clear c22
       by_cases c23 : 1 < ((rd_L2 l1 x10_3).length : Int)
       rotate_left
       · rw [if_neg c23] at H
         exact absurd H (by simp)
       rw [if_pos c23] at H
       have c23b0 : decide (1 < ((rd_L2 l1 x10_3).length : Int)) = true:=decide_eq_true c23
       have c23b1 : decide (1 < (rd_L2 l1 x10_3).length) = true:=decide_eq_true (by omega)
       clear c23
       by_cases c24 : 0 < ((rd_L2 l1 x10_3).length : Int)
       rotate_left
       · rw [if_neg c24] at H
         exact absurd H (by simp)
       rw [if_pos c24] at H
       have c24b0 : decide (0 < ((rd_L2 l1 x10_3).length : Int)) = true:=decide_eq_true c24
       have c24b1 : decide (0 < (rd_L2 l1 x10_3).length) = true:=decide_eq_true (by omega)
       clear c24
       by_cases c25 : (wrap64 ((rd (rd_L2 l1 x10_3) 1) - (rd (rd_L2 l1 x10_3) 0))) = 0
       · rw [if_pos c25] at H
         exact absurd H (by simp)
       rw [if_neg c25] at H
       have c25b0 : ((wrap64 ((rd (rd_L2 l1 x10_3) 1) - (rd (rd_L2 l1 x10_3) 0))) == 0) = false:=beq_eq_false_iff_ne.mpr c25
       have c25b1 : ((wrap64 ((rd (rd_L2 l1 x10_3) 1) - (rd (rd_L2 l1 x10_3) 0))) != 0) = true:=bne_iff_ne.mpr c25
       by_cases c26 : (Int.tmod (wrap64 ((wrap64 (x0_3 + (rd l2 x10_3))) * (rd (rd_L2 l1 x10_3) 1))) (wrap64 ((rd (rd_L2 l1 x10_3) 1) - (rd (rd_L2 l1 x10_3) 0)))) = 0
       rotate_left
       · rw [if_neg c26] at H
         have c26b0 : ((Int.tmod (wrap64 ((wrap64 (x0_3 + (rd l2 x10_3))) * (rd (rd_L2 l1 x10_3) 1))) (wrap64 ((rd (rd_L2 l1 x10_3) 1) - (rd (rd_L2 l1 x10_3) 0)))) == 0) = false:=beq_eq_false_iff_ne.mpr c26
         have c26b1 : ((Int.tmod (wrap64 ((wrap64 (x0_3 + (rd l2 x10_3))) * (rd (rd_L2 l1 x10_3) 1))) (wrap64 ((rd (rd_L2 l1 x10_3) 1) - (rd (rd_L2 l1 x10_3) 0)))) != 0) = true:=bne_iff_ne.mpr c26
         simp only [Option.some.injEq,Prod.mk.injEq] at H
         obtain ⟨rfl,rfl⟩:=H
         have p425 : 0 ≤ (x10_3 : Int):=of_decide_eq_true (by first|(with_reducible assumption)|assumption)
         have q425 : x10_3 < (l2.length : Int):=of_decide_eq_true (by first|(with_reducible assumption)|assumption)
         obtain ⟨ad425,e425,hx425_0⟩:=Kd.at_int HR2.out x10_3 p425 q425
         cases e425
         replace p425:=eq_true p425
         replace q425:=eq_true q425
         have p426 : 0 ≤ (x10_3 : Int):=of_decide_eq_true (by first|(with_reducible assumption)|assumption)
         have q426 : x10_3 < (l1.length : Int):=of_decide_eq_true (by first|(with_reducible assumption)|assumption)
         obtain ⟨ad426,A426_0,c426_0,e426,hx426_0,hl426_0,hi426_0⟩:=at_L2 HR1.out x10_3 p426 q426
         cases e426
         have HR426_0:=zI hi426_0;have HC426_0:=zI hl426_0;clear hi426_0 hl426_0
         replace p426:=eq_true p426
         replace q426:=eq_true q426
         have p427 : 0 ≤ (1 : Int):=(by omega)
         have q427 : 1 < ((rd_L2 l1 x10_3).length : Int):=of_decide_eq_true (by first|(with_reducible assumption)|assumption)
         obtain ⟨ad427,e427,hx427_0⟩:=Kd.at_int HR426_0.out 1 p427 q427
         cases e427
         (try simp only [show (1 : Int).toNat = 1 from rfl,Nat.reduceMul,Nat.reduceEqDiff,Go.Addr.add,↓reduceIte] at hx427_0)
         have qi427 : (1 < (rd_L2 l1 x10_3).length) = True:=eq_true (by omega)
         (try rw [show ((1 : Int)).toNat = 1 from rfl] at hx427_0)
         replace p427:=eq_true p427
         replace q427:=eq_true q427
         have p428 : 0 ≤ (x10_3 : Int):=of_decide_eq_true (by first|(with_reducible assumption)|assumption)
         have q428 : x10_3 < (l1.length : Int):=of_decide_eq_true (by first|(with_reducible assumption)|assumption)
         obtain ⟨ad428,A428_0,c428_0,e428,hx428_0,hl428_0,hi428_0⟩:=at_L2 HR1.out x10_3 p428 q428
         obtain rfl : ad426 = ad428:=(by injection e428)
         have HR428_0:=zI hi428_0;have HC428_0:=zI hl428_0;clear hi428_0 hl428_0
         replace p428:=eq_true p428
         replace q428:=eq_true q428
         have ea_:=Option.some.inj (hx426_0.symm.trans hx428_0)
         injection ea_ with ea_ en_ ec_
         subst ea_;subst ec_;clear en_
         have p429 : 0 ≤ (1 : Int):=(by omega)
         have q429 : 1 < ((rd_L2 l1 x10_3).length : Int):=of_decide_eq_true (by first|(with_reducible assumption)|assumption)
         obtain ⟨ad429,e429,hx429_0⟩:=Kd.at_int HR428_0.out 1 p429 q429
         cases e429
         (try simp only [show (1 : Int).toNat = 1 from rfl,Nat.reduceMul,Nat.reduceEqDiff,Go.Addr.add,↓reduceIte] at hx429_0)
         have qi429 : (1 < (rd_L2 l1 x10_3).length) = True:=eq_true (by omega)
         (try rw [show ((1 : Int)).toNat = 1 from rfl] at hx429_0)
         replace p429:=eq_true p429
         replace q429:=eq_true q429
         have p430 : 0 ≤ (x10_3 : Int):=of_decide_eq_true (by first|(with_reducible assumption)|assumption)
         have q430 : x10_3 < (l1.length : Int):=of_decide_eq_true (by first|(with_reducible assumption)|assumption)
         obtain ⟨ad430,A430_0,c430_0,e430,hx430_0,hl430_0,hi430_0⟩:=at_L2 HR1.out x10_3 p430 q430
         obtain rfl : ad426 = ad430:=(by injection e430)
         have HR430_0:=zI hi430_0;have HC430_0:=zI hl430_0;clear hi430_0 hl430_0
         replace p430:=eq_true p430
         replace q430:=eq_true q430
         have ea_:=Option.some.inj (hx426_0.symm.trans hx430_0)
         injection ea_ with ea_ en_ ec_
         subst ea_;subst ec_;clear en_
         have p431 : 0 ≤ (0 : Int):=(by omega)
         have q431 : 0 < ((rd_L2 l1 x10_3).length : Int):=of_decide_eq_true (by first|(with_reducible assumption)|assumption)
         obtain ⟨ad431,e431,hx431_0⟩:=Kd.at_int HR430_0.out 0 p431 q431
         cases e431
         have qi431 : (0 < (rd_L2 l1 x10_3).length) = True:=eq_true (by omega)
         (try rw [show ((0 : Int)).toNat = 0 from rfl] at hx431_0);(try rw [Addr.add_zero'] at hx431_0)
         replace p431:=eq_true p431
         replace q431:=eq_true q431
         go_wp2
         repeat (go_quiet (fail);try go_wp2)
         go_ret2
         exact ⟨by first|rfl|(simp;done)|(simp [*];done),by repeat (first|exact Drawn0.refl _|apply Drawn0.step)⟩
       rw [if_pos c26] at H
       have c26b0 : ((Int.tmod (wrap64 ((wrap64 (x0_3 + (rd l2 x10_3))) * (rd (rd_L2 l1 x10_3) 1))) (wrap64 ((rd (rd_L2 l1 x10_3) 1) - (rd (rd_L2 l1 x10_3) 0)))) == 0) = true:=beq_iff_eq.mpr c26
       have c26b1 : ((Int.tmod (wrap64 ((wrap64 (x0_3 + (rd l2 x10_3))) * (rd (rd_L2 l1 x10_3) 1))) (wrap64 ((rd (rd_L2 l1 x10_3) 1) - (rd (rd_L2 l1 x10_3) 0)))) != 0) = false:=bne_eq_false_iff_eq.mpr c26
       clear c26
       by_cases c27 : (rd (rd_L2 l1 x10_3) 1) = 0
       · rw [if_pos c27] at H
         exact absurd H (by simp)
       rw [if_neg c27] at H
       have c27b0 : ((rd (rd_L2 l1 x10_3) 1) == 0) = false:=beq_eq_false_iff_ne.mpr c27
       have c27b1 : ((rd (rd_L2 l1 x10_3) 1) != 0) = true:=bne_iff_ne.mpr c27
       by_cases c28 : (Int.tmod (wrap64 ((wrap64 (Int.tdiv (wrap64 ((wrap64 (x0_3 + (rd l2 x10_3))) * (rd (rd_L2 l1 x10_3) 1))) (wrap64 ((rd (rd_L2 l1 x10_3) 1) - (rd (rd_L2 l1 x10_3) 0))))) * (rd (rd_L2 l1 x10_3) 0))) (rd (rd_L2 l1 x10_3) 1)) = 0
       rotate_left
       · rw [if_neg c28] at H
         have c28b0 : ((Int.tmod (wrap64 ((wrap64 (Int.tdiv (wrap64 ((wrap64 (x0_3 + (rd l2 x10_3))) * (rd (rd_L2 l1 x10_3) 1))) (wrap64 ((rd (rd_L2 l1 x10_3) 1) - (rd (rd_L2 l1 x10_3) 0))))) * (rd (rd_L2 l1 x10_3) 0))) (rd (rd_L2 l1 x10_3) 1)) == 0) = false:=beq_eq_false_iff_ne.mpr c28
         have c28b1 : ((Int.tmod (wrap64 ((wrap64 (Int.tdiv (wrap64 ((wrap64 (x0_3 + (rd l2 x10_3))) * (rd (rd_L2 l1 x10_3) 1))) (wrap64 ((rd (rd_L2 l1 x10_3) 1) - (rd (rd_L2 l1 x10_3) 0))))) * (rd (rd_L2 l1 x10_3) 0))) (rd (rd_L2 l1 x10_3) 1)) != 0) = true:=bne_iff_ne.mpr c28
         simp only [Option.some.injEq,Prod.mk.injEq] at H
         obtain ⟨rfl,rfl⟩:=H
         have p425 : 0 ≤ (x10_3 : Int):=of_decide_eq_true (by first|(with_reducible assumption)|assumption)
         have q425 : x10_3 < (l2.length : Int):=of_decide_eq_true (by first|(with_reducible assumption)|assumption)
         obtain ⟨ad425,e425,hx425_0⟩:=Kd.at_int HR2.out x10_3 p425 q425
         cases e425
         replace p425:=eq_true p425
         replace q425:=eq_true q425
         have p426 : 0 ≤ (x10_3 : Int):=of_decide_eq_true (by first|(with_reducible assumption)|assumption)
         have q426 : x10_3 < (l1.length : Int):=of_decide_eq_true (by first|(with_reducible assumption)|assumption)
         obtain ⟨ad426,A426_0,c426_0,e426,hx426_0,hl426_0,hi426_0⟩:=at_L2 HR1.out x10_3 p426 q426
         cases e426
         have HR426_0:=zI hi426_0;have HC426_0:=zI hl426_0;clear hi426_0 hl426_0
         replace p426:=eq_true p426
         replace q426:=eq_true q426
         have p427 : 0 ≤ (1 : Int):=(by omega)
         have q427 : 1 < ((rd_L2 l1 x10_3).length : Int):=of_decide_eq_true (by first|(with_reducible assumption)|assumption)
         obtain ⟨ad427,e427,hx427_0⟩:=Kd.at_int HR426_0.out 1 p427 q427
         cases e427
         (try simp only [show (1 : Int).toNat = 1 from rfl,Nat.reduceMul,Nat.reduceEqDiff,Go.Addr.add,↓reduceIte] at hx427_0)
         have qi427 : (1 < (rd_L2 l1 x10_3).length) = True:=eq_true (by omega)
         (try rw [show ((1 : Int)).toNat = 1 from rfl] at hx427_0)
         replace p427:=eq_true p427
         replace q427:=eq_true q427
         have p428 : 0 ≤ (x10_3 : Int):=of_decide_eq_true (by first|(with_reducible assumption)|assumption)
         have q428 : x10_3 < (l1.length : Int):=of_decide_eq_true (by first|(with_reducible assumption)|assumption)
         obtain ⟨ad428,A428_0,c428_0,e428,hx428_0,hl428_0,hi428_0⟩:=at_L2 HR1.out x10_3 p428 q428
         obtain rfl : ad426 = ad428:=(by injection e428)
         have HR428_0:=zI hi428_0;have HC428_0:=zI hl428_0;clear hi428_0 hl428_0
         replace p428:=eq_true p428
         replace q428:=eq_true q428
         have ea_:=Option.some.inj (hx426_0.symm.trans hx428_0)
         injection ea_ with ea_ en_ ec_
         subst ea_;subst ec_;clear en_
         have p429 : 0 ≤ (1 : Int):=(by omega)
         have q429 : 1 < ((rd_L2 l1 x10_3).length : Int):=of_decide_eq_true (by first|(with_reducible assumption)|assumption)
         obtain ⟨ad429,e429,hx429_0⟩:=Kd.at_int HR428_0.out 1 p429 q429
         cases e429
         (try simp only [show (1 : Int).toNat = 1 from rfl,Nat.reduceMul,Nat.reduceEqDiff,Go.Addr.add,↓reduceIte] at hx429_0)
         have qi429 : (1 < (rd_L2 l1 x10_3).length) = True:=eq_true (by omega)
         (try rw [show ((1 : Int)).toNat = 1 from rfl] at hx429_0)
         replace p429:=eq_true p429
         replace q429:=eq_true q429
         have p430 : 0 ≤ (x10_3 : Int):=of_decide_eq_true (by first|(with_reducible assumption)|assumption)
         have q430 : x10_3 < (l1.length : Int):=of_decide_eq_true (by first|(with_reducible assumption)|assumption)
         obtain ⟨ad430,A430_0,c430_0,e430,hx430_0,hl430_0,hi430_0⟩:=at_L2 HR1.out x10_3 p430 q430
         obtain rfl : ad426 = ad430:=(by injection e430)
         have HR430_0:=zI hi430_0;have HC430_0:=zI hl430_0;clear hi430_0 hl430_0
         replace p430:=eq_true p430
         replace q430:=eq_true q430
         have ea_:=Option.some.inj (hx426_0.symm.trans hx430_0)
         injection ea_ with ea_ en_ ec_
         subst ea_;subst ec_;clear en_
         have p431 : 0 ≤ (0 : Int):=(by omega)
         have q431 : 0 < ((rd_L2 l1 x10_3).length : Int):=of_decide_eq_true (by first|(with_reducible assumption)|assumption)
         obtain ⟨ad431,e431,hx431_0⟩:=Kd.at_int HR430_0.out 0 p431 q431
         cases e431
         have qi431 : (0 < (rd_L2 l1 x10_3).length) = True:=eq_true (by omega)
         (try rw [show ((0 : Int)).toNat = 0 from rfl] at hx431_0);(try rw [Addr.add_zero'] at hx431_0)
         replace p431:=eq_true p431
         replace q431:=eq_true q431
         have p432 : 0 ≤ (x10_3 : Int):=of_decide_eq_true (by first|(with_reducible assumption)|assumption)
         have q432 : x10_3 < (l1.length : Int):=of_decide_eq_true (by first|(with_reducible assumption)|assumption)
         obtain ⟨ad432,A432_0,c432_0,e432,hx432_0,hl432_0,hi432_0⟩:=at_L2 HR1.out x10_3 p432 q432
         obtain rfl : ad426 = ad432:=(by injection e432)
         have HR432_0:=zI hi432_0;have HC432_0:=zI hl432_0;clear hi432_0 hl432_0
         replace p432:=eq_true p432
         replace q432:=eq_true q432
         have ea_:=Option.some.inj (hx426_0.symm.trans hx432_0)
         injection ea_ with ea_ en_ ec_
         subst ea_;subst ec_;clear en_
         have p433 : 0 ≤ (0 : Int):=(by omega)
         have q433 : 0 < ((rd_L2 l1 x10_3).length : Int):=of_decide_eq_true (by first|(with_reducible assumption)|assumption)
         obtain ⟨ad433,e433,hx433_0⟩:=Kd.at_int HR432_0.out 0 p433 q433
         cases e433
         have qi433 : (0 < (rd_L2 l1 x10_3).length) = True:=eq_true (by omega)
         (try rw [show ((0 : Int)).toNat = 0 from rfl] at hx433_0);(try rw [Addr.add_zero'] at hx433_0)
         replace p433:=eq_true p433
         replace q433:=eq_true q433
         have p434 : 0 ≤ (x10_3 : Int):=of_decide_eq_true (by first|(with_reducible assumption)|assumption)
         have q434 : x10_3 < (l1.length : Int):=of_decide_eq_true (by first|(with_reducible assumption)|assumption)
         obtain ⟨ad434,A434_0,c434_0,e434,hx434_0,hl434_0,hi434_0⟩:=at_L2 HR1.out x10_3 p434 q434
         obtain rfl : ad426 = ad434:=(by injection e434)
         have HR434_0:=zI hi434_0;have HC434_0:=zI hl434_0;clear hi434_0 hl434_0
         replace p434:=eq_true p434
         replace q434:=eq_true q434
         have ea_:=Option.some.inj (hx426_0.symm.trans hx434_0)
         injection ea_ with ea_ en_ ec_
         subst ea_;subst ec_;clear en_
         have p435 : 0 ≤ (1 : Int):=(by omega)
         have q435 : 1 < ((rd_L2 l1 x10_3).length : Int):=of_decide_eq_true (by first|(with_reducible assumption)|assumption)
         obtain ⟨ad435,e435,hx435_0⟩:=Kd.at_int HR434_0.out 1 p435 q435
         cases e435
         (try simp only [show (1 : Int).toNat = 1 from rfl,Nat.reduceMul,Nat.reduceEqDiff,Go.Addr.add,↓reduceIte] at hx435_0)
         have qi435 : (1 < (rd_L2 l1 x10_3).length) = True:=eq_true (by omega)
         (try rw [show ((1 : Int)).toNat = 1 from rfl] at hx435_0)
         replace p435:=eq_true p435
         replace q435:=eq_true q435
         go_wp2
         repeat (go_quiet (fail);try go_wp2)
         go_ret2
         exact ⟨by first|rfl|(simp;done)|(simp [*];done),by repeat (first|exact Drawn0.refl _|apply Drawn0.step)⟩
       rw [if_pos c28] at H
       have c28b0 : ((Int.tmod (wrap64 ((wrap64 (Int.tdiv (wrap64 ((wrap64 (x0_3 + (rd l2 x10_3))) * (rd (rd_L2 l1 x10_3) 1))) (wrap64 ((rd (rd_L2 l1 x10_3) 1) - (rd (rd_L2 l1 x10_3) 0))))) * (rd (rd_L2 l1 x10_3) 0))) (rd (rd_L2 l1 x10_3) 1)) == 0) = true:=beq_iff_eq.mpr c28
       have c28b1 : ((Int.tmod (wrap64 ((wrap64 (Int.tdiv (wrap64 ((wrap64 (x0_3 + (rd l2 x10_3))) * (rd (rd_L2 l1 x10_3) 1))) (wrap64 ((rd (rd_L2 l1 x10_3) 1) - (rd (rd_L2 l1 x10_3) 0))))) * (rd (rd_L2 l1 x10_3) 0))) (rd (rd_L2 l1 x10_3) 1)) != 0) = false:=bne_eq_false_iff_eq.mpr c28
       clear c28
       by_cases c29 : (wrap64 (Int.tdiv (wrap64 ((wrap64 (x0_3 + (rd l2 x10_3))) * (rd (rd_L2 l1 x10_3) 1))) (wrap64 ((rd (rd_L2 l1 x10_3) 1) - (rd (rd_L2 l1 x10_3) 0))))) > 2000
       · rw [if_pos c29] at H
         have c29b0 : decide (2000 < (wrap64 (Int.tdiv (wrap64 ((wrap64 (x0_3 + (rd l2 x10_3))) * (rd (rd_L2 l1 x10_3) 1))) (wrap64 ((rd (rd_L2 l1 x10_3) 1) - (rd (rd_L2 l1 x10_3) 0)))))) = true:=decide_eq_true c29
         clear c29
         simp only [Option.some.injEq,Prod.mk.injEq] at H
         obtain ⟨rfl,rfl⟩:=H
         have p425 : 0 ≤ (x10_3 : Int):=of_decide_eq_true (by first|(with_reducible assumption)|assumption)
         have q425 : x10_3 < (l2.length : Int):=of_decide_eq_true (by first|(with_reducible assumption)|assumption)
         obtain ⟨ad425,e425,hx425_0⟩:=Kd.at_int HR2.out x10_3 p425 q425
         cases e425
         replace p425:=eq_true p425
         replace q425:=eq_true q425
         have p426 : 0 ≤ (x10_3 : Int):=of_decide_eq_true (by first|(with_reducible assumption)|assumption)
         have q426 : x10_3 < (l1.length : Int):=of_decide_eq_true (by first|(with_reducible assumption)|assumption)
         obtain ⟨ad426,A426_0,c426_0,e426,hx426_0,hl426_0,hi426_0⟩:=at_L2 HR1.out x10_3 p426 q426
         cases e426
         have HR426_0:=zI hi426_0;have HC426_0:=zI hl426_0;clear hi426_0 hl426_0
         replace p426:=eq_true p426
         replace q426:=eq_true q426
         have p427 : 0 ≤ (1 : Int):=(by omega)
         have q427 : 1 < ((rd_L2 l1 x10_3).length : Int):=of_decide_eq_true (by first|(with_reducible assumption)|assumption)
         obtain ⟨ad427,e427,hx427_0⟩:=Kd.at_int HR426_0.out 1 p427 q427
         cases e427
         (try simp only [show (1 : Int).toNat = 1 from rfl,Nat.reduceMul,Nat.reduceEqDiff,Go.Addr.add,↓reduceIte] at hx427_0)
         have qi427 : (1 < (rd_L2 l1 x10_3).length) = True:=eq_true (by omega)
         (try rw [show ((1 : Int)).toNat = 1 from rfl] at hx427_0)
         replace p427:=eq_true p427
         replace q427:=eq_true q427
         have p428 : 0 ≤ (x10_3 : Int):=of_decide_eq_true (by first|(with_reducible assumption)|assumption)
         have q428 : x10_3 < (l1.length : Int):=of_decide_eq_true (by first|(with_reducible assumption)|assumption)
         obtain ⟨ad428,A428_0,c428_0,e428,hx428_0,hl428_0,hi428_0⟩:=at_L2 HR1.out x10_3 p428 q428
         obtain rfl : ad426 = ad428:=(by injection e428)
         have HR428_0:=zI hi428_0;have HC428_0:=zI hl428_0;clear hi428_0 hl428_0
         replace p428:=eq_true p428
         replace q428:=eq_true q428
         have ea_:=Option.some.inj (hx426_0.symm.trans hx428_0)
         injection ea_ with ea_ en_ ec_
         subst ea_;subst ec_;clear en_
         have p429 : 0 ≤ (1 : Int):=(by omega)
         have q429 : 1 < ((rd_L2 l1 x10_3).length : Int):=of_decide_eq_true (by first|(with_reducible assumption)|assumption)
         obtain ⟨ad429,e429,hx429_0⟩:=Kd.at_int HR428_0.out 1 p429 q429
         cases e429
         (try simp only [show (1 : Int).toNat = 1 from rfl,Nat.reduceMul,Nat.reduceEqDiff,Go.Addr.add,↓reduceIte] at hx429_0)
         have qi429 : (1 < (rd_L2 l1 x10_3).length) = True:=eq_true (by omega)
         (try rw [show ((1 : Int)).toNat = 1 from rfl] at hx429_0)
         replace p429:=eq_true p429
         replace q429:=eq_true q429
         have p430 : 0 ≤ (x10_3 : Int):=of_decide_eq_true (by first|(with_reducible assumption)|assumption)
         have q430 : x10_3 < (l1.length : Int):=of_decide_eq_true (by first|(with_reducible assumption)|assumption)
         obtain ⟨ad430,A430_0,c430_0,e430,hx430_0,hl430_0,hi430_0⟩:=at_L2 HR1.out x10_3 p430 q430
         obtain rfl : ad426 = ad430:=(by injection e430)
         have HR430_0:=zI hi430_0;have HC430_0:=zI hl430_0;clear hi430_0 hl430_0
         replace p430:=eq_true p430
         replace q430:=eq_true q430
         have ea_:=Option.some.inj (hx426_0.symm.trans hx430_0)
         injection ea_ with ea_ en_ ec_
         subst ea_;subst ec_;clear en_
         have p431 : 0 ≤ (0 : Int):=(by omega)
         have q431 : 0 < ((rd_L2 l1 x10_3).length : Int):=of_decide_eq_true (by first|(with_reducible assumption)|assumption)
         obtain ⟨ad431,e431,hx431_0⟩:=Kd.at_int HR430_0.out 0 p431 q431
         cases e431
         have qi431 : (0 < (rd_L2 l1 x10_3).length) = True:=eq_true (by omega)
         (try rw [show ((0 : Int)).toNat = 0 from rfl] at hx431_0);(try rw [Addr.add_zero'] at hx431_0)
         replace p431:=eq_true p431
         replace q431:=eq_true q431
         have p432 : 0 ≤ (x10_3 : Int):=of_decide_eq_true (by first|(with_reducible assumption)|assumption)
         have q432 : x10_3 < (l1.length : Int):=of_decide_eq_true (by first|(with_reducible assumption)|assumption)
         obtain ⟨ad432,A432_0,c432_0,e432,hx432_0,hl432_0,hi432_0⟩:=at_L2 HR1.out x10_3 p432 q432
         obtain rfl : ad426 = ad432:=(by injection e432)
         have HR432_0:=zI hi432_0;have HC432_0:=zI hl432_0;clear hi432_0 hl432_0
         replace p432:=eq_true p432
         replace q432:=eq_true q432
         have ea_:=Option.some.inj (hx426_0.symm.trans hx432_0)
         injection ea_ with ea_ en_ ec_
         subst ea_;subst ec_;clear en_
         have p433 : 0 ≤ (0 : Int):=(by omega)
         have q433 : 0 < ((rd_L2 l1 x10_3).length : Int):=of_decide_eq_true (by first|(with_reducible assumption)|assumption)
         obtain ⟨ad433,e433,hx433_0⟩:=Kd.at_int HR432_0.out 0 p433 q433
         cases e433
         have qi433 : (0 < (rd_L2 l1 x10_3).length) = True:=eq_true (by omega)
         (try rw [show ((0 : Int)).toNat = 0 from rfl] at hx433_0);(try rw [Addr.add_zero'] at hx433_0)
         replace p433:=eq_true p433
         replace q433:=eq_true q433
         have p434 : 0 ≤ (x10_3 : Int):=of_decide_eq_true (by first|(with_reducible assumption)|assumption)
         have q434 : x10_3 < (l1.length : Int):=of_decide_eq_true (by first|(with_reducible assumption)|assumption)
         obtain ⟨ad434,A434_0,c434_0,e434,hx434_0,hl434_0,hi434_0⟩:=at_L2 HR1.out x10_3 p434 q434
         obtain rfl : ad426 = ad434:=(by injection e434)
         have HR434_0:=zI hi434_0;have HC434_0:=zI hl434_0;clear hi434_0 hl434_0
         replace p434:=eq_true p434
         replace q434:=eq_true q434
         have ea_:=Option.some.inj (hx426_0.symm.trans hx434_0)
         injection ea_ with ea_ en_ ec_
         subst ea_;subst ec_;clear en_
         have p435 : 0 ≤ (1 : Int):=(by omega)
         have q435 : 1 < ((rd_L2 l1 x10_3).length : Int):=of_decide_eq_true (by first|(with_reducible assumption)|assumption)
         obtain ⟨ad435,e435,hx435_0⟩:=Kd.at_int HR434_0.out 1 p435 q435
         cases e435
         (try simp only [show (1 : Int).toNat = 1 from rfl,Nat.reduceMul,Nat.reduceEqDiff,Go.Addr.add,↓reduceIte] at hx435_0)
         have qi435 : (1 < (rd_L2 l1 x10_3).length) = True:=eq_true (by omega)
         (try rw [show ((1 : Int)).toNat = 1 from rfl] at hx435_0)
         replace p435:=eq_true p435
         replace q435:=eq_true q435
         go_wp2
         repeat (go_quiet (fail);try go_wp2)
         go_ret2
         exact ⟨by first|rfl|(simp;done)|(simp [*];done),by repeat (first|exact Drawn0.refl _|apply Drawn0.step)⟩
       rw [if_neg c29] at H
       have c29b0 : decide (2000 < (wrap64 (Int.tdiv (wrap64 ((wrap64 (x0_3 + (rd l2 x10_3))) * (rd (rd_L2 l1 x10_3) 1))) (wrap64 ((rd (rd_L2 l1 x10_3) 1) - (rd (rd_L2 l1 x10_3) 0)))))) = false:=decide_eq_false c29
       clear c29;have H':=zI H;clear H
       have p425 : 0 ≤ (x10_3 : Int):=of_decide_eq_true (by first|(with_reducible assumption)|assumption)
       have q425 : x10_3 < (l2.length : Int):=of_decide_eq_true (by first|(with_reducible assumption)|assumption)
       obtain ⟨ad425,e425,hx425_0⟩:=Kd.at_int HR2.out x10_3 p425 q425
       cases e425
       replace p425:=eq_true p425
       replace q425:=eq_true q425
       have p426 : 0 ≤ (x10_3 : Int):=of_decide_eq_true (by first|(with_reducible assumption)|assumption)
       have q426 : x10_3 < (l1.length : Int):=of_decide_eq_true (by first|(with_reducible assumption)|assumption)
       obtain ⟨ad426,A426_0,c426_0,e426,hx426_0,hl426_0,hi426_0⟩:=at_L2 HR1.out x10_3 p426 q426
       cases e426
       have HR426_0:=zI hi426_0;have HC426_0:=zI hl426_0;clear hi426_0 hl426_0
       replace p426:=eq_true p426
       replace q426:=eq_true q426
       have p427 : 0 ≤ (1 : Int):=(by omega)
       have q427 : 1 < ((rd_L2 l1 x10_3).length : Int):=of_decide_eq_true (by first|(with_reducible assumption)|assumption)
       obtain ⟨ad427,e427,hx427_0⟩:=Kd.at_int HR426_0.out 1 p427 q427
       cases e427
       (try simp only [show (1 : Int).toNat = 1 from rfl,Nat.reduceMul,Nat.reduceEqDiff,Go.Addr.add,↓reduceIte] at hx427_0)
       have qi427 : (1 < (rd_L2 l1 x10_3).length) = True:=eq_true (by omega)
       (try rw [show ((1 : Int)).toNat = 1 from rfl] at hx427_0)
       replace p427:=eq_true p427
       replace q427:=eq_true q427
       have p428 : 0 ≤ (x10_3 : Int):=of_decide_eq_true (by first|(with_reducible assumption)|assumption)
       have q428 : x10_3 < (l1.length : Int):=of_decide_eq_true (by first|(with_reducible assumption)|assumption)
       obtain ⟨ad428,A428_0,c428_0,e428,hx428_0,hl428_0,hi428_0⟩:=at_L2 HR1.out x10_3 p428 q428
       obtain rfl : ad426 = ad428:=(by injection e428)
       have HR428_0:=zI hi428_0;have HC428_0:=zI hl428_0;clear hi428_0 hl428_0
       replace p428:=eq_true p428
       replace q428:=eq_true q428
       have ea_:=Option.some.inj (hx426_0.symm.trans hx428_0)
       injection ea_ with ea_ en_ ec_
       subst ea_;subst ec_;clear en_
       have p429 : 0 ≤ (1 : Int):=(by omega)
       have q429 : 1 < ((rd_L2 l1 x10_3).length : Int):=of_decide_eq_true (by first|(with_reducible assumption)|assumption)
       obtain ⟨ad429,e429,hx429_0⟩:=Kd.at_int HR428_0.out 1 p429 q429
       cases e429
       (try simp only [show (1 : Int).toNat = 1 from rfl,Nat.reduceMul,Nat.reduceEqDiff,Go.Addr.add,↓reduceIte] at hx429_0)
       have qi429 : (1 < (rd_L2 l1 x10_3).length) = True:=eq_true (by omega)
       (try rw [show ((1 : Int)).toNat = 1 from rfl] at hx429_0)
       replace p429:=eq_true p429
       replace q429:=eq_true q429
       have p430 : 0 ≤ (x10_3 : Int):=of_decide_eq_true (by first|(with_reducible assumption)|assumption)
       have q430 : x10_3 < (l1.length : Int):=of_decide_eq_true (by first|(with_reducible assumption)|assumption)
       obtain ⟨ad430,A430_0,c430_0,e430,hx430_0,hl430_0,hi430_0⟩:=at_L2 HR1.out x10_3 p430 q430
       obtain rfl : ad426 = ad430:=(by injection e430)
       have HR430_0:=zI hi430_0;have HC430_0:=zI hl430_0;clear hi430_0 hl430_0
       replace p430:=eq_true p430
       replace q430:=eq_true q430
       have ea_:=Option.some.inj (hx426_0.symm.trans hx430_0)
       injection ea_ with ea_ en_ ec_
       subst ea_;subst ec_;clear en_
       have p431 : 0 ≤ (0 : Int):=(by omega)
       have q431 : 0 < ((rd_L2 l1 x10_3).length : Int):=of_decide_eq_true (by first|(with_reducible assumption)|assumption)
       obtain ⟨ad431,e431,hx431_0⟩:=Kd.at_int HR430_0.out 0 p431 q431
       cases e431
       have qi431 : (0 < (rd_L2 l1 x10_3).length) = True:=eq_true (by omega)
       (try rw [show ((0 : Int)).toNat = 0 from rfl] at hx431_0);(try rw [Addr.add_zero'] at hx431_0)
       replace p431:=eq_true p431
       replace q431:=eq_true q431
       have p432 : 0 ≤ (x10_3 : Int):=of_decide_eq_true (by first|(with_reducible assumption)|assumption)
       have q432 : x10_3 < (l1.length : Int):=of_decide_eq_true (by first|(with_reducible assumption)|assumption)
       obtain ⟨ad432,A432_0,c432_0,e432,hx432_0,hl432_0,hi432_0⟩:=at_L2 HR1.out x10_3 p432 q432
       obtain rfl : ad426 = ad432:=(by injection e432)
       have HR432_0:=zI hi432_0;have HC432_0:=zI hl432_0;clear hi432_0 hl432_0
       replace p432:=eq_true p432
       replace q432:=eq_true q432
       have ea_:=Option.some.inj (hx426_0.symm.trans hx432_0)
       injection ea_ with ea_ en_ ec_
       subst ea_;subst ec_;clear en_
       have p433 : 0 ≤ (0 : Int):=(by omega)
       have q433 : 0 < ((rd_L2 l1 x10_3).length : Int):=of_decide_eq_true (by first|(with_reducible assumption)|assumption)
       obtain ⟨ad433,e433,hx433_0⟩:=Kd.at_int HR432_0.out 0 p433 q433
       cases e433
       have qi433 : (0 < (rd_L2 l1 x10_3).length) = True:=eq_true (by omega)
       (try rw [show ((0 : Int)).toNat = 0 from rfl] at hx433_0);(try rw [Addr.add_zero'] at hx433_0)
       replace p433:=eq_true p433
       replace q433:=eq_true q433
       have p434 : 0 ≤ (x10_3 : Int):=of_decide_eq_true (by first|(with_reducible assumption)|assumption)
       have q434 : x10_3 < (l1.length : Int):=of_decide_eq_true (by first|(with_reducible assumption)|assumption)
       obtain ⟨ad434,A434_0,c434_0,e434,hx434_0,hl434_0,hi434_0⟩:=at_L2 HR1.out x10_3 p434 q434
       obtain rfl : ad426 = ad434:=(by injection e434)
       have HR434_0:=zI hi434_0;have HC434_0:=zI hl434_0;clear hi434_0 hl434_0
       replace p434:=eq_true p434
       replace q434:=eq_true q434
       have ea_:=Option.some.inj (hx426_0.symm.trans hx434_0)
       injection ea_ with ea_ en_ ec_
       subst ea_;subst ec_;clear en_
       have p435 : 0 ≤ (1 : Int):=(by omega)
       have q435 : 1 < ((rd_L2 l1 x10_3).length : Int):=of_decide_eq_true (by first|(with_reducible assumption)|assumption)
       obtain ⟨ad435,e435,hx435_0⟩:=Kd.at_int HR434_0.out 1 p435 q435
       cases e435
       (try simp only [show (1 : Int).toNat = 1 from rfl,Nat.reduceMul,Nat.reduceEqDiff,Go.Addr.add,↓reduceIte] at hx435_0)
       have qi435 : (1 < (rd_L2 l1 x10_3).length) = True:=eq_true (by omega)
       (try rw [show ((1 : Int)).toNat = 1 from rfl] at hx435_0)
       replace p435:=eq_true p435
       replace q435:=eq_true q435
       go_wp2
       repeat (go_quiet (fail);try go_wp2)
       go_roundg k3
       case measure=>have:=HJ3.out;have:=HK2.out;have:=HK3.out;omega
       case rel=>exact ⟨(wrap64 (Int.tdiv (wrap64 ((wrap64 (x0_3 + (rd l2 x10_3))) * (rd (rd_L2 l1 x10_3) 1))) (wrap64 ((rd (rd_L2 l1 x10_3) 1) - (rd (rd_L2 l1 x10_3) 0))))),(wrap64 (x10_3 - 1)),(by first|rfl|(simp;done)|(simp [*];done)),(by first|rfl|(simp;done)|(simp [*];done)),H',⟨by have:=HJ3.out;have:=HK2.out;have:=HK3.out;omega⟩,by repeat (first|exact Drawn0.refl _|apply Drawn0.step)⟩

end Go.Proofs.Ytllakpmepfeinaa.XFnReadersPlan
