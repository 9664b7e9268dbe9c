-- Written by a program of this session: the machine side of the law FnReadersPlan, with contracts proved by hand for what the kit's print doesn't take. Lean checks it.
import Derived.Test.YtllakpmepfeinaaXFnReadersPlanx0
import Derived.Test.YtllakpmepfeinaaXFnReadersPlanx1
import Derived.Test.YtllakpmepfeinaaXFnReadersPlanx3
import Derived.Test.YtllakpmepfeinaaXFnReadersPlanx5
namespace Go.Proofs.Ytllakpmepfeinaa.XFnReadersPlan
open Go.RowKit Go.Proofs.YtllakpmepfeinaaW.PrintWords Go.Proofs.YtllakpmepfeinaaW.PrintLast Go.Proofs.YtllakpmepfeinaaW.PrintMore
attribute [local go_sem] max2_int min2_int max_two min_two max_three min_three max_four min_four   -- for this text's walks alone
set_option linter.unusedVariables false
set_option linter.unusedSimpArgs false

/-! ### impl_AfterParts: function 24 -/
mutual
def impl_AfterParts.j0 : Nat → Int → List (List Int) → List Int → Bool → Option (Int × Bool)
  | 0, _, _, _, _ => none
  | k + 1, x0, x1, x2, x33 => if x33 = true then (some (0, false)) else (impl_AfterParts.l0 k x0 x1 x2 x1 (x1.length : Int) 0)
def impl_AfterParts.l0 : Nat → Int → List (List Int) → List Int → List (List Int) → Int → Int → Option (Int × Bool)
  | 0, _, _, _, _, _, _ => none
  | k + 1, x0, x1, x2, x34, x35, x36 => if x36 < x35 then (if 0 ≤ x36 then (if x36 < (x34.length : Int) then (if ((rd_L2 x34 x36).length : Int) = 2 then (if 0 < ((rd_L2 x34 x36).length : Int) then (if 1 < ((rd_L2 x34 x36).length : Int) then ((impl_isPart.f (rd (rd_L2 x34 x36) 0) (rd (rd_L2 x34 x36) 1)).bind fun t411 => (if t411 = true then (impl_AfterParts.l0 k x0 x1 x2 x34 x35 (wrap64 (x36 + 1))) else (some (0, false)))) else (none)) else (none)) else (some (0, false))) else (none)) else (none)) else (impl_AfterParts.l1 k x0 x1 x2 (wrap64 ((x1.length : Int) - 1)))
def impl_AfterParts.l1 : Nat → Int → List (List Int) → List Int → Int → Option (Int × Bool)
  | 0, _, _, _, _ => none
  | k + 1, x0, x1, x2, x10 => if x10 ≥ 0 then (if 0 ≤ x10 then (if x10 < (x1.length : Int) then (if 0 < ((rd_L2 x1 x10).length : Int) then (if 1 < ((rd_L2 x1 x10).length : Int) then (if x10 < (x2.length : Int) then (if (wrap64 ((rd (rd_L2 x1 x10) 1) - (rd (rd_L2 x1 x10) 0))) = 0 then (none) else (if (Int.tmod (wrap64 ((wrap64 (x0 + (rd x2 x10))) * (rd (rd_L2 x1 x10) 1))) (wrap64 ((rd (rd_L2 x1 x10) 1) - (rd (rd_L2 x1 x10) 0)))) = 0 then (if (wrap64 (Int.tdiv (wrap64 ((wrap64 (x0 + (rd x2 x10))) * (rd (rd_L2 x1 x10) 1))) (wrap64 ((rd (rd_L2 x1 x10) 1) - (rd (rd_L2 x1 x10) 0))))) > 2000 then (some (0, false)) else (impl_AfterParts.l1 k (wrap64 (Int.tdiv (wrap64 ((wrap64 (x0 + (rd x2 x10))) * (rd (rd_L2 x1 x10) 1))) (wrap64 ((rd (rd_L2 x1 x10) 1) - (rd (rd_L2 x1 x10) 0))))) x1 x2 (wrap64 (x10 - 1)))) else (some (0, false)))) else (none)) else (none)) else (none)) else (none)) else (none)) else (some (x0, true))
end
def impl_AfterParts.f (k : Nat) (a0 : Int) (l1 : List (List Int)) (l2 : List Int) : Option (Int × Bool) := (impl_within.f a0 0 2000).bind fun t406 => (if t406 = true then (if (l1.length : Int) > 6 then (impl_AfterParts.j0 k a0 l1 l2 true) else (if (l1.length : Int) = (l2.length : Int) then ((impl_allWithin.f k l2 0 200).bind fun t407 => (impl_AfterParts.j0 k a0 l1 l2 (!t407))) else (impl_AfterParts.j0 k a0 l1 l2 true))) else (impl_AfterParts.j0 k a0 l1 l2 true))
theorem impl_AfterParts.mono_l : ∀ k, (∀ y0 y1 y2 y3, LeO (impl_AfterParts.j0 k y0 y1 y2 y3) (impl_AfterParts.j0 (k + 1) y0 y1 y2 y3)) ∧ (∀ y0 y1 y2 y3 y4 y5, LeO (impl_AfterParts.l0 k y0 y1 y2 y3 y4 y5) (impl_AfterParts.l0 (k + 1) y0 y1 y2 y3 y4 y5)) ∧ (∀ y0 y1 y2 y3, LeO (impl_AfterParts.l1 k y0 y1 y2 y3) (impl_AfterParts.l1 (k + 1) y0 y1 y2 y3))
  | 0 => ⟨fun _ _ _ _ r h => by simp [impl_AfterParts.j0] at h, fun _ _ _ _ _ _ r h => by simp [impl_AfterParts.l0] at h, fun _ _ _ _ r h => by simp [impl_AfterParts.l1] at h⟩
  | k + 1 => by
    obtain ⟨ih0, ih1, ih2⟩ := impl_AfterParts.mono_l k
    refine ⟨?_, ?_, ?_⟩
    · intro y0 y1 y2 y3
      unfold impl_AfterParts.j0
      repeat' first
      | (with_reducible exact ih0 _ _ _ _)
      | (with_reducible exact ih1 _ _ _ _ _ _)
      | (with_reducible exact ih2 _ _ _ _)
      | (with_reducible exact impl_allWithin.mono _ _ _ _)
      | (with_reducible exact LeO.refl _)
      | (with_reducible exact LeO.none _)
      | (with_reducible refine LeO.ite ?_ ?_)
      | (with_reducible refine LeO.bind ?_ (fun _ => ?_))
      | exact ih0 _ _ _ _
      | exact ih1 _ _ _ _ _ _
      | exact ih2 _ _ _ _
      | exact impl_allWithin.mono _ _ _ _
      | exact LeO.none _
      | refine LeO.ite ?_ ?_
      | refine LeO.bind ?_ (fun _ => ?_)
    · intro y0 y1 y2 y3 y4 y5
      unfold impl_AfterParts.l0
      repeat' first
      | (with_reducible exact ih0 _ _ _ _)
      | (with_reducible exact ih1 _ _ _ _ _ _)
      | (with_reducible exact ih2 _ _ _ _)
      | (with_reducible exact impl_allWithin.mono _ _ _ _)
      | (with_reducible exact LeO.refl _)
      | (with_reducible exact LeO.none _)
      | (with_reducible refine LeO.ite ?_ ?_)
      | (with_reducible refine LeO.bind ?_ (fun _ => ?_))
      | exact ih0 _ _ _ _
      | exact ih1 _ _ _ _ _ _
      | exact ih2 _ _ _ _
      | exact impl_allWithin.mono _ _ _ _
      | exact LeO.none _
      | refine LeO.ite ?_ ?_
      | refine LeO.bind ?_ (fun _ => ?_)
    · intro y0 y1 y2 y3
      unfold impl_AfterParts.l1
      repeat' first
      | (with_reducible exact ih0 _ _ _ _)
      | (with_reducible exact ih1 _ _ _ _ _ _)
      | (with_reducible exact ih2 _ _ _ _)
      | (with_reducible exact impl_allWithin.mono _ _ _ _)
      | (with_reducible exact LeO.refl _)
      | (with_reducible exact LeO.none _)
      | (with_reducible refine LeO.ite ?_ ?_)
      | (with_reducible refine LeO.bind ?_ (fun _ => ?_))
      | exact ih0 _ _ _ _
      | exact ih1 _ _ _ _ _ _
      | exact ih2 _ _ _ _
      | exact impl_allWithin.mono _ _ _ _
      | exact LeO.none _
      | refine LeO.ite ?_ ?_
      | refine LeO.bind ?_ (fun _ => ?_)
theorem impl_AfterParts.mono : ∀ a0 a1 a2 k, LeO (impl_AfterParts.f k a0 a1 a2) (impl_AfterParts.f (k + 1) a0 a1 a2) := by
  intro a0 a1 a2 k
  obtain ⟨ih0, ih1, ih2⟩ := impl_AfterParts.mono_l k
  unfold impl_AfterParts.f
  repeat' first
      | (with_reducible exact ih0 _ _ _ _)
      | (with_reducible exact ih1 _ _ _ _ _ _)
      | (with_reducible exact ih2 _ _ _ _)
      | (with_reducible exact impl_allWithin.mono _ _ _ _)
      | (with_reducible exact LeO.refl _)
      | (with_reducible exact LeO.none _)
      | (with_reducible refine LeO.ite ?_ ?_)
      | (with_reducible refine LeO.bind ?_ (fun _ => ?_))
      | exact ih0 _ _ _ _
      | exact ih1 _ _ _ _ _ _
      | exact ih2 _ _ _ _
      | exact impl_allWithin.mono _ _ _ _
      | exact LeO.none _
      | refine LeO.ite ?_ ?_
      | refine LeO.bind ?_ (fun _ => ?_)
set_option maxHeartbeats 8000000 in
set_option maxRecDepth 100000 in
theorem impl_AfterParts.calls (k : Nat) (a0 : Int) (A1 : Option Addr) (c1 : Nat) (l1 : List (List Int)) (A2 : Option Addr) (c2 : Nat) (l2 : List Int) (r1 : Int) (r2 : Bool) (w : World) (hr1 : Kd.C (Kd.slice 3 (Kd.int .i64)) w A1 l1.length l1) (hc1 : l1.length ≤ c1) (hr2 : Kd.C (Kd.int .i64) w A2 l2.length l2) (hc2 : l2.length ≤ c2) (h : impl_AfterParts.f k a0 l1 l2 = some (r1, r2)) :
    Calls Try.prog 24 #[.int .i64 a0, .slice A1 l1.length c1, .slice A2 l2.length c2] w fun e w' => e = .returned (.tuple #[.int .i64 r1, .bool r2]) ∧ Drawn0 w w' := by
 have HR1:=zI hr1;have HC1:=zI hc1;clear hr1 hc1;have HR2:=zI hr2;have HC2:=zI hc2;clear hr2 hc2
 have H : ((impl_within.f a0 0 2000).bind fun t406=>(if t406 = true then (if (l1.length : Int) > 6 then (impl_AfterParts.j0 k a0 l1 l2 true) else (if (l1.length : Int) = (l2.length : Int) then ((impl_allWithin.f k l2 0 200).bind fun t407=>(impl_AfterParts.j0 k a0 l1 l2 (!t407))) else (impl_AfterParts.j0 k a0 l1 l2 true))) else (impl_AfterParts.j0 k a0 l1 l2 true))) = some (r1,r2):=h
 clear h;have HC4:=zI H;clear H
 go_enter Try.func24,Try.ntmps24
 go_upto_region 1 with (fail)
 repeat (go_quiet (fail);go_upto_region 1 with (fail))
 go_cut [33] (fun v33 wc=>∃ (kq : Nat) (x33_3 : Bool),v33 = .bool x33_3 ∧ Aside0 (impl_AfterParts.j0 kq a0 l1 l2 x33_3 = some (r1,r2)) ∧ Aside0 (kq ≤ k) ∧ Drawn0 w wc)
 case first =>
  have H:=HC4.out;clear HC4;replace H:=Option.bind_eq_some_iff.mp H
  obtain ⟨t406,A50,H⟩:=H
  replace H : (if t406 = true then (if (l1.length : Int) > 6 then (impl_AfterParts.j0 k a0 l1 l2 true) else (if (l1.length : Int) = (l2.length : Int) then ((impl_allWithin.f k l2 0 200).bind fun t407=>(impl_AfterParts.j0 k a0 l1 l2 (!t407))) else (impl_AfterParts.j0 k a0 l1 l2 true))) else (impl_AfterParts.j0 k a0 l1 l2 true)) = some (r1,r2):=H
  have A5:=zI A50;clear A50
  by_cases c6 : t406 = true
  rotate_left
  · replace c6:=Bool.eq_false_iff.mpr c6
    subst c6
    have H1 : (impl_AfterParts.j0 k a0 l1 l2 true) = some (r1,r2):=by rw [if_neg (show ¬ (false = true) by decide)] at H;exact H
    clear H;have H:=H1;clear H1;have H':=zI H;clear H
    go_wp2_with (first|(go_at_call 33;(with_reducible refine (impl_within.calls a0 0 2000 false _ A5.out).mono ?_);rintro e w' ⟨rfl,⟨nd,rfl⟩⟩;(try first|exact ⟨rfl,_,zL _ _ _⟩|exact ⟨rfl,_,Eq.trans (zL _ _ _) (congrArg (World.drewN _) (Nat.add_assoc _ _ _))⟩)))
    repeat (go_quiet (first|(go_at_call 33;(with_reducible refine (impl_within.calls a0 0 2000 false _ A5.out).mono ?_);rintro e w' ⟨rfl,⟨nd,rfl⟩⟩;(try first|exact ⟨rfl,_,zL _ _ _⟩|exact ⟨rfl,_,Eq.trans (zL _ _ _) (congrArg (World.drewN _) (Nat.add_assoc _ _ _))⟩)));try go_wp2_with (first|(go_at_call 33;(with_reducible refine (impl_within.calls a0 0 2000 false _ A5.out).mono ?_);rintro e w' ⟨rfl,⟨nd,rfl⟩⟩;(try first|exact ⟨rfl,_,zL _ _ _⟩|exact ⟨rfl,_,Eq.trans (zL _ _ _) (congrArg (World.drewN _) (Nat.add_assoc _ _ _))⟩))))
    go_meet
    case rel=>exact ⟨_,(true),(by first|rfl|(simp;done)|(simp [*];done)),H',⟨by first|omega|exact Nat.le_refl _⟩,by repeat (first|exact Drawn0.refl _|apply Drawn0.step)⟩
  subst c6
  have H1 : (if (l1.length : Int) > 6 then (impl_AfterParts.j0 k a0 l1 l2 true) else (if (l1.length : Int) = (l2.length : Int) then ((impl_allWithin.f k l2 0 200).bind fun t407=>(impl_AfterParts.j0 k a0 l1 l2 (!t407))) else (impl_AfterParts.j0 k a0 l1 l2 true))) = some (r1,r2):=by rw [if_pos rfl] at H;exact H
  clear H;have H:=H1;clear H1
  by_cases c7 : (l1.length : Int) > 6
  · rw [if_pos c7] at H
    have c7b0 : decide (6 < (l1.length : Int)) = true:=decide_eq_true c7
    have c7b1 : decide (6 < l1.length) = true:=decide_eq_true (by omega)
    clear c7
    (first|rw [c7b0]|(simp only [i64_w,i32_w];rw [c7b0])|skip)
    have H':=zI H;clear H
    go_wp2_with (first|(go_at_call 33;(with_reducible refine (impl_within.calls a0 0 2000 true _ A5.out).mono ?_);rintro e w' ⟨rfl,⟨nd,rfl⟩⟩;(try first|exact ⟨rfl,_,zL _ _ _⟩|exact ⟨rfl,_,Eq.trans (zL _ _ _) (congrArg (World.drewN _) (Nat.add_assoc _ _ _))⟩)))
    repeat (go_quiet (first|(go_at_call 33;(with_reducible refine (impl_within.calls a0 0 2000 true _ A5.out).mono ?_);rintro e w' ⟨rfl,⟨nd,rfl⟩⟩;(try first|exact ⟨rfl,_,zL _ _ _⟩|exact ⟨rfl,_,Eq.trans (zL _ _ _) (congrArg (World.drewN _) (Nat.add_assoc _ _ _))⟩)));try go_wp2_with (first|(go_at_call 33;(with_reducible refine (impl_within.calls a0 0 2000 true _ A5.out).mono ?_);rintro e w' ⟨rfl,⟨nd,rfl⟩⟩;(try first|exact ⟨rfl,_,zL _ _ _⟩|exact ⟨rfl,_,Eq.trans (zL _ _ _) (congrArg (World.drewN _) (Nat.add_assoc _ _ _))⟩))))
    go_meet
    case rel=>exact ⟨_,(true),(by first|rfl|(simp;done)|(simp [*];done)),H',⟨by first|omega|exact Nat.le_refl _⟩,by repeat (first|exact Drawn0.refl _|apply Drawn0.step)⟩
  rw [if_neg c7] at H
  have c7b0 : decide (6 < (l1.length : Int)) = false:=decide_eq_false c7
  have c7b1 : decide (6 < l1.length) = false:=decide_eq_false (by omega)
  clear c7
  (first|rw [c7b0]|(simp only [i64_w,i32_w];rw [c7b0])|skip)
  by_cases c8 : (l1.length : Int) = (l2.length : Int)
  rotate_left
  · rw [if_neg c8] at H
    have c8b0 : ((l1.length : Int) == (l2.length : Int)) = false:=beq_eq_false_iff_ne.mpr c8
    have c8b1 : ((l1.length : Int) != (l2.length : Int)) = true:=bne_iff_ne.mpr c8
    have c8b2 : (l1.length == l2.length) = false:=by first|simpa using c8|(simp at c8 ⊢;omega)
    have H':=zI H;clear H
    go_wp2_with (first|(go_at_call 33;(with_reducible refine (impl_within.calls a0 0 2000 true _ A5.out).mono ?_);rintro e w' ⟨rfl,⟨nd,rfl⟩⟩;(try first|exact ⟨rfl,_,zL _ _ _⟩|exact ⟨rfl,_,Eq.trans (zL _ _ _) (congrArg (World.drewN _) (Nat.add_assoc _ _ _))⟩)))
    repeat (go_quiet (first|(go_at_call 33;(with_reducible refine (impl_within.calls a0 0 2000 true _ A5.out).mono ?_);rintro e w' ⟨rfl,⟨nd,rfl⟩⟩;(try first|exact ⟨rfl,_,zL _ _ _⟩|exact ⟨rfl,_,Eq.trans (zL _ _ _) (congrArg (World.drewN _) (Nat.add_assoc _ _ _))⟩)));try go_wp2_with (first|(go_at_call 33;(with_reducible refine (impl_within.calls a0 0 2000 true _ A5.out).mono ?_);rintro e w' ⟨rfl,⟨nd,rfl⟩⟩;(try first|exact ⟨rfl,_,zL _ _ _⟩|exact ⟨rfl,_,Eq.trans (zL _ _ _) (congrArg (World.drewN _) (Nat.add_assoc _ _ _))⟩))))
    go_meet
    case rel=>exact ⟨_,(true),(by first|rfl|(simp;done)|(simp [*];done)),H',⟨by first|omega|exact Nat.le_refl _⟩,by repeat (first|exact Drawn0.refl _|apply Drawn0.step)⟩
  rw [if_pos c8] at H
  have c8b0 : ((l1.length : Int) == (l2.length : Int)) = true:=beq_iff_eq.mpr c8
  have c8b1 : ((l1.length : Int) != (l2.length : Int)) = false:=bne_eq_false_iff_eq.mpr c8
  have c8b2 : (l1.length == l2.length) = true:=by first|simpa using c8|(simp at c8 ⊢;omega)
  clear c8;replace H:=Option.bind_eq_some_iff.mp H
  obtain ⟨t407,A90,H⟩:=H
  replace H : (impl_AfterParts.j0 k a0 l1 l2 (!t407)) = some (r1,r2):=H
  have A9:=zI A90;clear A90;have H':=zI H;clear H
  go_wp2_with (first|(go_at_call 33;(with_reducible refine (impl_within.calls a0 0 2000 true _ A5.out).mono ?_);rintro e w' ⟨rfl,⟨nd,rfl⟩⟩;(try first|exact ⟨rfl,_,zL _ _ _⟩|exact ⟨rfl,_,Eq.trans (zL _ _ _) (congrArg (World.drewN _) (Nat.add_assoc _ _ _))⟩))|(go_at_call 47;(with_reducible refine (impl_allWithin.calls k _ _ l2 0 200 t407 _ ?side1 ?side2 A9.out).mono ?_);(case side1=>repeat (first|exact HR2.out|(with_reducible refine zQ ?_ _)|(with_reducible refine zR ?_ _)|(with_reducible refine zS ?_)));(case side2=>exact HC2.out);rintro e w' ⟨rfl,⟨nd,rfl⟩⟩;(try first|exact ⟨rfl,_,zL _ _ _⟩|exact ⟨rfl,_,Eq.trans (zL _ _ _) (congrArg (World.drewN _) (Nat.add_assoc _ _ _))⟩)))
  repeat (go_quiet (first|(go_at_call 33;(with_reducible refine (impl_within.calls a0 0 2000 true _ A5.out).mono ?_);rintro e w' ⟨rfl,⟨nd,rfl⟩⟩;(try first|exact ⟨rfl,_,zL _ _ _⟩|exact ⟨rfl,_,Eq.trans (zL _ _ _) (congrArg (World.drewN _) (Nat.add_assoc _ _ _))⟩))|(go_at_call 47;(with_reducible refine (impl_allWithin.calls k _ _ l2 0 200 t407 _ ?side1 ?side2 A9.out).mono ?_);(case side1=>repeat (first|exact HR2.out|(with_reducible refine zQ ?_ _)|(with_reducible refine zR ?_ _)|(with_reducible refine zS ?_)));(case side2=>exact HC2.out);rintro e w' ⟨rfl,⟨nd,rfl⟩⟩;(try first|exact ⟨rfl,_,zL _ _ _⟩|exact ⟨rfl,_,Eq.trans (zL _ _ _) (congrArg (World.drewN _) (Nat.add_assoc _ _ _))⟩)));try go_wp2_with (first|(go_at_call 33;(with_reducible refine (impl_within.calls a0 0 2000 true _ A5.out).mono ?_);rintro e w' ⟨rfl,⟨nd,rfl⟩⟩;(try first|exact ⟨rfl,_,zL _ _ _⟩|exact ⟨rfl,_,Eq.trans (zL _ _ _) (congrArg (World.drewN _) (Nat.add_assoc _ _ _))⟩))|(go_at_call 47;(with_reducible refine (impl_allWithin.calls k _ _ l2 0 200 t407 _ ?side1 ?side2 A9.out).mono ?_);(case side1=>repeat (first|exact HR2.out|(with_reducible refine zQ ?_ _)|(with_reducible refine zR ?_ _)|(with_reducible refine zS ?_)));(case side2=>exact HC2.out);rintro e w' ⟨rfl,⟨nd,rfl⟩⟩;(try first|exact ⟨rfl,_,zL _ _ _⟩|exact ⟨rfl,_,Eq.trans (zL _ _ _) (congrArg (World.drewN _) (Nat.add_assoc _ _ _))⟩))))
  go_meet
  case rel=>exact ⟨_,(!t407),(by first|rfl|(simp;done)|(simp [*];done)),H',⟨by first|omega|exact Nat.le_refl _⟩,by repeat (first|exact Drawn0.refl _|apply Drawn0.step)⟩
 case rest =>
  clear HC4
  (try clear c1);(try clear c2);(try clear p2);(try clear c6);(try clear c7);(try clear c7b0);(try clear c7b1);(try clear c8);(try clear c8b0);(try clear c8b1);(try clear c8b2)
  obtain ⟨kq,x33_3,rfl,HA,HJ3,⟨mc3,rfl⟩⟩:=hcut
  cases kq with
  | zero=>exact absurd HA.out (by simp [impl_AfterParts.j0])
  | succ kj3 =>
   have H:=HA.out;clear HA
   simp only [impl_AfterParts.j0] at H
   by_cases c10 : x33_3 = true
   · subst c10
     have H1 : (some (0,false)) = some (r1,r2):=by rw [if_pos rfl] at H;exact H
     clear H;have H:=H1;clear H1
     simp only [Option.some.injEq,Prod.mk.injEq] at H
     obtain ⟨rfl,rfl⟩:=H
     go_wp2
     repeat (go_quiet (fail);try go_wp2)
     go_ret2
     exact ⟨by first|rfl|(simp;done)|(simp [*];done),by repeat (first|exact Drawn0.refl _|apply Drawn0.step)⟩
   replace c10:=Bool.eq_false_iff.mpr c10
   subst c10
   have H1 : (impl_AfterParts.l0 kj3 a0 l1 l2 l1 (l1.length : Int) 0) = some (r1,r2):=by rw [if_neg (show ¬ (false = true) by decide)] at H;exact H
   clear H;have H:=H1;clear H1;have H':=zI H;clear H
   go_wp2
   repeat (go_quiet (fail);try go_wp2)
   go_loopg [36] kj3 (fun kq v36 w'=>∃ (x36_2 : Int),v36 = .int .i64 x36_2 ∧ Aside0 (impl_AfterParts.l0 kq a0 l1 l2 l1 (l1.length : Int) x36_2 = some (r1,r2)) ∧ Aside0 (kq ≤ kj3) ∧ Drawn0 w w')
   case atStart=>exact ⟨(0),(by first|rfl|(simp;done)|(simp [*];done)),H',⟨Nat.le_refl _⟩,by repeat (first|exact Drawn0.refl _|apply Drawn0.step)⟩
   case round =>
    clear H'
    (try clear c1);(try clear c2);(try clear p2);(try clear c3);(try clear c6);(try clear c7);(try clear c7b0);(try clear c7b1);(try clear c8);(try clear c8b0);(try clear c8b1);(try clear c8b2);(try clear c10);(try clear p2)
    obtain ⟨x36_2,rfl,HA,HK2,⟨m2,rfl⟩⟩:=hrel
    cases gk with
    | zero=>exact absurd HA.out (by simp [impl_AfterParts.l0])
    | succ k2 =>
     have H:=HA.out;clear HA
     simp only [impl_AfterParts.l0] at H
     by_cases c11 : x36_2 < (l1.length : Int)
     · rw [if_pos c11] at H
       have c11b0 : decide (x36_2 < (l1.length : Int)) = true:=decide_eq_true c11
       clear c11
       by_cases c12 : 0 ≤ x36_2
       rotate_left
       · rw [if_neg c12] at H
         exact absurd H (by simp)
       rw [if_pos c12] at H
       have c12b0 : decide (0 ≤ x36_2) = true:=decide_eq_true c12
       clear c12
       by_cases c13 : x36_2 < (l1.length : Int)
       rotate_left
       · rw [if_neg c13] at H
         exact absurd H (by simp)
       rw [if_pos c13] at H
       have c13b0 : decide (x36_2 < (l1.length : Int)) = true:=decide_eq_true c13
       clear c13
       by_cases c14 : ((rd_L2 l1 x36_2).length : Int) = 2
       rotate_left
       · rw [if_neg c14] at H
         have c14b0 : (((rd_L2 l1 x36_2).length : Int) == 2) = false:=beq_eq_false_iff_ne.mpr c14
         have c14b1 : (((rd_L2 l1 x36_2).length : Int) != 2) = true:=bne_iff_ne.mpr c14
         simp only [Option.some.injEq,Prod.mk.injEq] at H
         obtain ⟨rfl,rfl⟩:=H
         have p408 : 0 ≤ (x36_2 : Int):=of_decide_eq_true (by first|(with_reducible assumption)|assumption)
         have q408 : x36_2 < (l1.length : Int):=of_decide_eq_true (by first|(with_reducible assumption)|assumption)
         obtain ⟨ad408,A408_0,c408_0,e408,hx408_0,hl408_0,hi408_0⟩:=at_L2 HR1.out x36_2 p408 q408
         cases e408
         have HR408_0:=zI hi408_0;have HC408_0:=zI hl408_0;clear hi408_0 hl408_0
         replace p408:=eq_true p408
         replace q408:=eq_true q408
         go_wp2
         repeat (go_quiet (fail);try go_wp2)
         go_ret2
         exact ⟨by first|rfl|(simp;done)|(simp [*];done),by repeat (first|exact Drawn0.refl _|apply Drawn0.step)⟩
       rw [if_pos c14] at H
       have c14b0 : (((rd_L2 l1 x36_2).length : Int) == 2) = true:=beq_iff_eq.mpr c14
       have c14b1 : (((rd_L2 l1 x36_2).length : Int) != 2) = false:=bne_eq_false_iff_eq.mpr c14
       clear c14
       by_cases c15 : 0 < ((rd_L2 l1 x36_2).length : Int)
       rotate_left
       · rw [if_neg c15] at H
         exact absurd H (by simp)
       rw [if_pos c15] at H
       have c15b0 : decide (0 < ((rd_L2 l1 x36_2).length : Int)) = true:=decide_eq_true c15
       have c15b1 : decide (0 < (rd_L2 l1 x36_2).length) = true:=decide_eq_true (by omega)
       clear c15
       by_cases c16 : 1 < ((rd_L2 l1 x36_2).length : Int)
       rotate_left
       · rw [if_neg c16] at H
         exact absurd H (by simp)
       rw [if_pos c16] at H
       have c16b0 : decide (1 < ((rd_L2 l1 x36_2).length : Int)) = true:=decide_eq_true c16
       have c16b1 : decide (1 < (rd_L2 l1 x36_2).length) = true:=decide_eq_true (by omega)
       clear c16;replace H:=Option.bind_eq_some_iff.mp H
       obtain ⟨t411,A170,H⟩:=H
       replace H : (if t411 = true then (impl_AfterParts.l0 k2 a0 l1 l2 l1 (l1.length : Int) (wrap64 (x36_2 + 1))) else (some (0,false))) = some (r1,r2):=H
       have A17:=zI A170;clear A170
       by_cases c18 : t411 = true
       rotate_left
       · replace c18:=Bool.eq_false_iff.mpr c18
         subst c18
         have H1 : (some (0,false)) = some (r1,r2):=by rw [if_neg (show ¬ (false = true) by decide)] at H;exact H
         clear H;have H:=H1;clear H1
         simp only [Option.some.injEq,Prod.mk.injEq] at H
         obtain ⟨rfl,rfl⟩:=H
         have p408 : 0 ≤ (x36_2 : Int):=of_decide_eq_true (by first|(with_reducible assumption)|assumption)
         have q408 : x36_2 < (l1.length : Int):=of_decide_eq_true (by first|(with_reducible assumption)|assumption)
         obtain ⟨ad408,A408_0,c408_0,e408,hx408_0,hl408_0,hi408_0⟩:=at_L2 HR1.out x36_2 p408 q408
         cases e408
         have HR408_0:=zI hi408_0;have HC408_0:=zI hl408_0;clear hi408_0 hl408_0
         replace p408:=eq_true p408
         replace q408:=eq_true q408
         have p409 : 0 ≤ (0 : Int):=(by omega)
         have q409 : 0 < ((rd_L2 l1 x36_2).length : Int):=of_decide_eq_true (by first|(with_reducible assumption)|assumption)
         obtain ⟨ad409,e409,hx409_0⟩:=Kd.at_int HR408_0.out 0 p409 q409
         cases e409
         have qi409 : (0 < (rd_L2 l1 x36_2).length) = True:=eq_true (by omega)
         (try rw [show ((0 : Int)).toNat = 0 from rfl] at hx409_0);(try rw [Addr.add_zero'] at hx409_0)
         replace p409:=eq_true p409
         replace q409:=eq_true q409
         have p410 : 0 ≤ (1 : Int):=(by omega)
         have q410 : 1 < ((rd_L2 l1 x36_2).length : Int):=of_decide_eq_true (by first|(with_reducible assumption)|assumption)
         obtain ⟨ad410,e410,hx410_0⟩:=Kd.at_int HR408_0.out 1 p410 q410
         obtain rfl : ad409 = ad410:=(by injection e410)
         (try simp only [show (1 : Int).toNat = 1 from rfl,Nat.reduceMul,Nat.reduceEqDiff,Go.Addr.add,↓reduceIte] at hx410_0)
         have qi410 : (1 < (rd_L2 l1 x36_2).length) = True:=eq_true (by omega)
         (try rw [show ((1 : Int)).toNat = 1 from rfl] at hx410_0)
         replace p410:=eq_true p410
         replace q410:=eq_true q410
         go_wp2_with (first|(go_at_call 42;(with_reducible refine (impl_isPart.calls (rd (rd_L2 l1 x36_2) 0) (rd (rd_L2 l1 x36_2) 1) false _ A17.out).mono ?_);rintro e w' ⟨rfl,⟨nd,rfl⟩⟩;(try first|exact ⟨rfl,_,zL _ _ _⟩|exact ⟨rfl,_,Eq.trans (zL _ _ _) (congrArg (World.drewN _) (Nat.add_assoc _ _ _))⟩)))
         repeat (go_quiet (first|(go_at_call 42;(with_reducible refine (impl_isPart.calls (rd (rd_L2 l1 x36_2) 0) (rd (rd_L2 l1 x36_2) 1) false _ A17.out).mono ?_);rintro e w' ⟨rfl,⟨nd,rfl⟩⟩;(try first|exact ⟨rfl,_,zL _ _ _⟩|exact ⟨rfl,_,Eq.trans (zL _ _ _) (congrArg (World.drewN _) (Nat.add_assoc _ _ _))⟩)));try go_wp2_with (first|(go_at_call 42;(with_reducible refine (impl_isPart.calls (rd (rd_L2 l1 x36_2) 0) (rd (rd_L2 l1 x36_2) 1) false _ A17.out).mono ?_);rintro e w' ⟨rfl,⟨nd,rfl⟩⟩;(try first|exact ⟨rfl,_,zL _ _ _⟩|exact ⟨rfl,_,Eq.trans (zL _ _ _) (congrArg (World.drewN _) (Nat.add_assoc _ _ _))⟩))))
         go_ret2
         exact ⟨by first|rfl|(simp;done)|(simp [*];done),by repeat (first|exact Drawn0.refl _|apply Drawn0.step)⟩
       subst c18
       have H1 : (impl_AfterParts.l0 k2 a0 l1 l2 l1 (l1.length : Int) (wrap64 (x36_2 + 1))) = some (r1,r2):=by rw [if_pos rfl] at H;exact H
       clear H;have H:=H1;clear H1;have H':=zI H;clear H
       have p408 : 0 ≤ (x36_2 : Int):=of_decide_eq_true (by first|(with_reducible assumption)|assumption)
       have q408 : x36_2 < (l1.length : Int):=of_decide_eq_true (by first|(with_reducible assumption)|assumption)
       obtain ⟨ad408,A408_0,c408_0,e408,hx408_0,hl408_0,hi408_0⟩:=at_L2 HR1.out x36_2 p408 q408
       cases e408
       have HR408_0:=zI hi408_0;have HC408_0:=zI hl408_0;clear hi408_0 hl408_0
       replace p408:=eq_true p408
       replace q408:=eq_true q408
       have p409 : 0 ≤ (0 : Int):=(by omega)
       have q409 : 0 < ((rd_L2 l1 x36_2).length : Int):=of_decide_eq_true (by first|(with_reducible assumption)|assumption)
       obtain ⟨ad409,e409,hx409_0⟩:=Kd.at_int HR408_0.out 0 p409 q409
       cases e409
       have qi409 : (0 < (rd_L2 l1 x36_2).length) = True:=eq_true (by omega)
       (try rw [show ((0 : Int)).toNat = 0 from rfl] at hx409_0);(try rw [Addr.add_zero'] at hx409_0)
       replace p409:=eq_true p409
       replace q409:=eq_true q409
       have p410 : 0 ≤ (1 : Int):=(by omega)
       have q410 : 1 < ((rd_L2 l1 x36_2).length : Int):=of_decide_eq_true (by first|(with_reducible assumption)|assumption)
       obtain ⟨ad410,e410,hx410_0⟩:=Kd.at_int HR408_0.out 1 p410 q410
       obtain rfl : ad409 = ad410:=(by injection e410)
       (try simp only [show (1 : Int).toNat = 1 from rfl,Nat.reduceMul,Nat.reduceEqDiff,Go.Addr.add,↓reduceIte] at hx410_0)
       have qi410 : (1 < (rd_L2 l1 x36_2).length) = True:=eq_true (by omega)
       (try rw [show ((1 : Int)).toNat = 1 from rfl] at hx410_0)
       replace p410:=eq_true p410
       replace q410:=eq_true q410
       go_wp2_with (first|(go_at_call 42;(with_reducible refine (impl_isPart.calls (rd (rd_L2 l1 x36_2) 0) (rd (rd_L2 l1 x36_2) 1) true _ A17.out).mono ?_);rintro e w' ⟨rfl,⟨nd,rfl⟩⟩;(try first|exact ⟨rfl,_,zL _ _ _⟩|exact ⟨rfl,_,Eq.trans (zL _ _ _) (congrArg (World.drewN _) (Nat.add_assoc _ _ _))⟩)))
       repeat (go_quiet (first|(go_at_call 42;(with_reducible refine (impl_isPart.calls (rd (rd_L2 l1 x36_2) 0) (rd (rd_L2 l1 x36_2) 1) true _ A17.out).mono ?_);rintro e w' ⟨rfl,⟨nd,rfl⟩⟩;(try first|exact ⟨rfl,_,zL _ _ _⟩|exact ⟨rfl,_,Eq.trans (zL _ _ _) (congrArg (World.drewN _) (Nat.add_assoc _ _ _))⟩)));try go_wp2_with (first|(go_at_call 42;(with_reducible refine (impl_isPart.calls (rd (rd_L2 l1 x36_2) 0) (rd (rd_L2 l1 x36_2) 1) true _ A17.out).mono ?_);rintro e w' ⟨rfl,⟨nd,rfl⟩⟩;(try first|exact ⟨rfl,_,zL _ _ _⟩|exact ⟨rfl,_,Eq.trans (zL _ _ _) (congrArg (World.drewN _) (Nat.add_assoc _ _ _))⟩))))
       go_roundg k2
       case measure=>have:=HJ3.out;have:=HK2.out;omega
       case rel=>exact ⟨(wrap64 (x36_2 + 1)),(by first|rfl|(simp;done)|(simp [*];done)),H',⟨by have:=HJ3.out;have:=HK2.out;omega⟩,by repeat (first|exact Drawn0.refl _|apply Drawn0.step)⟩
     rw [if_neg c11] at H
     have c11b0 : decide (x36_2 < (l1.length : Int)) = false:=decide_eq_false c11
     clear c11;have H':=zI H;clear H
     go_wp2
     repeat (go_quiet (fail);try go_wp2)
     go_loopg [0,10] k2 (fun kq v0 v10 w'=>∃ (x0_3 : Int) (x10_3 : Int),v0 = .int .i64 x0_3 ∧ v10 = .int .i64 x10_3 ∧ Aside0 (impl_AfterParts.l1 kq x0_3 l1 l2 x10_3 = some (r1,r2)) ∧ Aside0 (kq ≤ k2) ∧ Drawn0 w w')
     case atStart=>exact ⟨(a0),(wrap64 ((l1.length : Int) - 1)),(by first|rfl|(simp;done)|(simp [*];done)),(by first|rfl|(simp;done)|(simp [*];done)),H',⟨Nat.le_refl _⟩,by repeat (first|exact Drawn0.refl _|apply Drawn0.step)⟩
     case round =>
      clear H'
      (try clear c1);(try clear c2);(try clear p2);(try clear c3);(try clear c4);(try clear p4);(try clear q4);(try clear hx4);(try clear qi4);(try clear c6);(try clear p6);(try clear c7);(try clear c7b0);(try clear c7b1);(try clear c8);(try clear c8b0);(try clear c8b1);(try clear c8b2);(try clear c10);(try clear c11);(try clear c11b0);(try clear c12);(try clear c12b0);(try clear c13);(try clear c13b0);(try clear c14);(try clear c14b0);(try clear c14b1);(try clear c15);(try clear c15b0);(try clear c15b1);(try clear c16);(try clear c16b0);(try clear c16b1);(try clear c18);(try clear hx408_0);(try clear hx409_0);(try clear hx410_0);(try clear p2);(try clear p408);(try clear p409);(try clear p410);(try clear q408);(try clear q409);(try clear q410)
      obtain ⟨x0_3,x10_3,rfl,rfl,HA,HK3,⟨m3,rfl⟩⟩:=hrel
      cases gk with
      | zero=>exact absurd HA.out (by simp [impl_AfterParts.l1])
      | succ k3 =>
       have H:=HA.out;clear HA
       simp only [impl_AfterParts.l1] at H
       by_cases c19 : x10_3 ≥ 0
       rotate_left
       · rw [if_neg c19] at H
         have c19b0 : decide (0 ≤ x10_3) = false:=decide_eq_false c19
         clear c19
         simp only [Option.some.injEq,Prod.mk.injEq] at H
         obtain ⟨rfl,rfl⟩:=H
         go_wp2
         repeat (go_quiet (fail);try go_wp2)
         go_ret2
         exact ⟨by first|rfl|(simp;done)|(simp [*];done),by repeat (first|exact Drawn0.refl _|apply Drawn0.step)⟩
       rw [if_pos c19] at H
       have c19b0 : decide (0 ≤ x10_3) = true:=decide_eq_true c19
       clear c19
       by_cases c20 : 0 ≤ x10_3
       rotate_left
       · rw [if_neg c20] at H
         exact absurd H (by simp)
       rw [if_pos c20] at H
       have c20b0 : decide (0 ≤ x10_3) = true:=decide_eq_true c20
       clear c20
       by_cases c21 : x10_3 < (l1.length : Int)
       rotate_left
       · rw [if_neg c21] at H
         exact absurd H (by simp)
       rw [if_pos c21] at H
       have c21b0 : decide (x10_3 < (l1.length : Int)) = true:=decide_eq_true c21
       clear c21
       by_cases c22 : 0 < ((rd_L2 l1 x10_3).length : Int)
       rotate_left
       · rw [if_neg c22] at H
         exact absurd H (by simp)
       rw [if_pos c22] at H
       have c22b0 : decide (0 < ((rd_L2 l1 x10_3).length : Int)) = true:=decide_eq_true c22
       have c22b1 : decide (0 < (rd_L2 l1 x10_3).length) = true:=decide_eq_true (by omega)
       clear c22
       by_cases c23 : 1 < ((rd_L2 l1 x10_3).length : Int)
       rotate_left
       · rw [if_neg c23] at H
         exact absurd H (by simp)
       rw [if_pos c23] at H
       have c23b0 : decide (1 < ((rd_L2 l1 x10_3).length : Int)) = true:=decide_eq_true c23
       have c23b1 : decide (1 < (rd_L2 l1 x10_3).length) = true:=decide_eq_true (by omega)
       clear c23
       by_cases c24 : x10_3 < (l2.length : Int)
       rotate_left
       · rw [if_neg c24] at H
         exact absurd H (by simp)
       rw [if_pos c24] at H
       have c24b0 : decide (x10_3 < (l2.length : Int)) = true:=decide_eq_true c24
       clear c24
       by_cases c25 : (wrap64 ((rd (rd_L2 l1 x10_3) 1) - (rd (rd_L2 l1 x10_3) 0))) = 0
       · rw [if_pos c25] at H
         exact absurd H (by simp)
       rw [if_neg c25] at H
       have c25b0 : ((wrap64 ((rd (rd_L2 l1 x10_3) 1) - (rd (rd_L2 l1 x10_3) 0))) == 0) = false:=beq_eq_false_iff_ne.mpr c25
       have c25b1 : ((wrap64 ((rd (rd_L2 l1 x10_3) 1) - (rd (rd_L2 l1 x10_3) 0))) != 0) = true:=bne_iff_ne.mpr c25
       by_cases c26 : (Int.tmod (wrap64 ((wrap64 (x0_3 + (rd l2 x10_3))) * (rd (rd_L2 l1 x10_3) 1))) (wrap64 ((rd (rd_L2 l1 x10_3) 1) - (rd (rd_L2 l1 x10_3) 0)))) = 0
       rotate_left
       · rw [if_neg c26] at H
         have c26b0 : ((Int.tmod (wrap64 ((wrap64 (x0_3 + (rd l2 x10_3))) * (rd (rd_L2 l1 x10_3) 1))) (wrap64 ((rd (rd_L2 l1 x10_3) 1) - (rd (rd_L2 l1 x10_3) 0)))) == 0) = false:=beq_eq_false_iff_ne.mpr c26
         have c26b1 : ((Int.tmod (wrap64 ((wrap64 (x0_3 + (rd l2 x10_3))) * (rd (rd_L2 l1 x10_3) 1))) (wrap64 ((rd (rd_L2 l1 x10_3) 1) - (rd (rd_L2 l1 x10_3) 0)))) != 0) = true:=bne_iff_ne.mpr c26
         simp only [Option.some.injEq,Prod.mk.injEq] at H
         obtain ⟨rfl,rfl⟩:=H
         have p412 : 0 ≤ (x10_3 : Int):=of_decide_eq_true (by first|(with_reducible assumption)|assumption)
         have q412 : x10_3 < (l1.length : Int):=of_decide_eq_true (by first|(with_reducible assumption)|assumption)
         obtain ⟨ad412,A412_0,c412_0,e412,hx412_0,hl412_0,hi412_0⟩:=at_L2 HR1.out x10_3 p412 q412
         cases e412
         have HR412_0:=zI hi412_0;have HC412_0:=zI hl412_0;clear hi412_0 hl412_0
         replace p412:=eq_true p412
         replace q412:=eq_true q412
         have p413 : 0 ≤ (0 : Int):=(by omega)
         have q413 : 0 < ((rd_L2 l1 x10_3).length : Int):=of_decide_eq_true (by first|(with_reducible assumption)|assumption)
         obtain ⟨ad413,e413,hx413_0⟩:=Kd.at_int HR412_0.out 0 p413 q413
         cases e413
         have qi413 : (0 < (rd_L2 l1 x10_3).length) = True:=eq_true (by omega)
         (try rw [show ((0 : Int)).toNat = 0 from rfl] at hx413_0);(try rw [Addr.add_zero'] at hx413_0)
         replace p413:=eq_true p413
         replace q413:=eq_true q413
         have p414 : 0 ≤ (x10_3 : Int):=of_decide_eq_true (by first|(with_reducible assumption)|assumption)
         have q414 : x10_3 < (l1.length : Int):=of_decide_eq_true (by first|(with_reducible assumption)|assumption)
         obtain ⟨ad414,A414_0,c414_0,e414,hx414_0,hl414_0,hi414_0⟩:=at_L2 HR1.out x10_3 p414 q414
         obtain rfl : ad412 = ad414:=(by injection e414)
         have HR414_0:=zI hi414_0;have HC414_0:=zI hl414_0;clear hi414_0 hl414_0
         replace p414:=eq_true p414
         replace q414:=eq_true q414
         have ea_:=Option.some.inj (hx412_0.symm.trans hx414_0)
         injection ea_ with ea_ en_ ec_
         subst ea_;subst ec_;clear en_
         have p415 : 0 ≤ (1 : Int):=(by omega)
         have q415 : 1 < ((rd_L2 l1 x10_3).length : Int):=of_decide_eq_true (by first|(with_reducible assumption)|assumption)
         obtain ⟨ad415,e415,hx415_0⟩:=Kd.at_int HR414_0.out 1 p415 q415
         cases e415
         (try simp only [show (1 : Int).toNat = 1 from rfl,Nat.reduceMul,Nat.reduceEqDiff,Go.Addr.add,↓reduceIte] at hx415_0)
         have qi415 : (1 < (rd_L2 l1 x10_3).length) = True:=eq_true (by omega)
         (try rw [show ((1 : Int)).toNat = 1 from rfl] at hx415_0)
         replace p415:=eq_true p415
         replace q415:=eq_true q415
         have p416 : 0 ≤ (x10_3 : Int):=of_decide_eq_true (by first|(with_reducible assumption)|assumption)
         have q416 : x10_3 < (l2.length : Int):=of_decide_eq_true (by first|(with_reducible assumption)|assumption)
         obtain ⟨ad416,e416,hx416_0⟩:=Kd.at_int HR2.out x10_3 p416 q416
         cases e416
         replace p416:=eq_true p416
         replace q416:=eq_true q416
         go_wp2
         repeat (go_quiet (fail);try go_wp2)
         go_ret2
         exact ⟨by first|rfl|(simp;done)|(simp [*];done),by repeat (first|exact Drawn0.refl _|apply Drawn0.step)⟩
       rw [if_pos c26] at H
       have c26b0 : ((Int.tmod (wrap64 ((wrap64 (x0_3 + (rd l2 x10_3))) * (rd (rd_L2 l1 x10_3) 1))) (wrap64 ((rd (rd_L2 l1 x10_3) 1) - (rd (rd_L2 l1 x10_3) 0)))) == 0) = true:=beq_iff_eq.mpr c26
       have c26b1 : ((Int.tmod (wrap64 ((wrap64 (x0_3 + (rd l2 x10_3))) * (rd (rd_L2 l1 x10_3) 1))) (wrap64 ((rd (rd_L2 l1 x10_3) 1) - (rd (rd_L2 l1 x10_3) 0)))) != 0) = false:=bne_eq_false_iff_eq.mpr c26
       clear c26
       by_cases c27 : (wrap64 (Int.tdiv (wrap64 ((wrap64 (x0_3 + (rd l2 x10_3))) * (rd (rd_L2 l1 x10_3) 1))) (wrap64 ((rd (rd_L2 l1 x10_3) 1) - (rd (rd_L2 l1 x10_3) 0))))) > 2000
       · rw [if_pos c27] at H
         have c27b0 : decide (2000 < (wrap64 (Int.tdiv (wrap64 ((wrap64 (x0_3 + (rd l2 x10_3))) * (rd (rd_L2 l1 x10_3) 1))) (wrap64 ((rd (rd_L2 l1 x10_3) 1) - (rd (rd_L2 l1 x10_3) 0)))))) = true:=decide_eq_true c27
         clear c27
         simp only [Option.some.injEq,Prod.mk.injEq] at H
         obtain ⟨rfl,rfl⟩:=H
         have p412 : 0 ≤ (x10_3 : Int):=of_decide_eq_true (by first|(with_reducible assumption)|assumption)
         have q412 : x10_3 < (l1.length : Int):=of_decide_eq_true (by first|(with_reducible assumption)|assumption)
         obtain ⟨ad412,A412_0,c412_0,e412,hx412_0,hl412_0,hi412_0⟩:=at_L2 HR1.out x10_3 p412 q412
         cases e412
         have HR412_0:=zI hi412_0;have HC412_0:=zI hl412_0;clear hi412_0 hl412_0
         replace p412:=eq_true p412
         replace q412:=eq_true q412
         have p413 : 0 ≤ (0 : Int):=(by omega)
         have q413 : 0 < ((rd_L2 l1 x10_3).length : Int):=of_decide_eq_true (by first|(with_reducible assumption)|assumption)
         obtain ⟨ad413,e413,hx413_0⟩:=Kd.at_int HR412_0.out 0 p413 q413
         cases e413
         have qi413 : (0 < (rd_L2 l1 x10_3).length) = True:=eq_true (by omega)
         (try rw [show ((0 : Int)).toNat = 0 from rfl] at hx413_0);(try rw [Addr.add_zero'] at hx413_0)
         replace p413:=eq_true p413
         replace q413:=eq_true q413
         have p414 : 0 ≤ (x10_3 : Int):=of_decide_eq_true (by first|(with_reducible assumption)|assumption)
         have q414 : x10_3 < (l1.length : Int):=of_decide_eq_true (by first|(with_reducible assumption)|assumption)
         obtain ⟨ad414,A414_0,c414_0,e414,hx414_0,hl414_0,hi414_0⟩:=at_L2 HR1.out x10_3 p414 q414
         obtain rfl : ad412 = ad414:=(by injection e414)
         have HR414_0:=zI hi414_0;have HC414_0:=zI hl414_0;clear hi414_0 hl414_0
         replace p414:=eq_true p414
         replace q414:=eq_true q414
         have ea_:=Option.some.inj (hx412_0.symm.trans hx414_0)
         injection ea_ with ea_ en_ ec_
         subst ea_;subst ec_;clear en_
         have p415 : 0 ≤ (1 : Int):=(by omega)
         have q415 : 1 < ((rd_L2 l1 x10_3).length : Int):=of_decide_eq_true (by first|(with_reducible assumption)|assumption)
         obtain ⟨ad415,e415,hx415_0⟩:=Kd.at_int HR414_0.out 1 p415 q415
         cases e415
         (try simp only [show (1 : Int).toNat = 1 from rfl,Nat.reduceMul,Nat.reduceEqDiff,Go.Addr.add,↓reduceIte] at hx415_0)
         have qi415 : (1 < (rd_L2 l1 x10_3).length) = True:=eq_true (by omega)
         (try rw [show ((1 : Int)).toNat = 1 from rfl] at hx415_0)
         replace p415:=eq_true p415
         replace q415:=eq_true q415
         have p416 : 0 ≤ (x10_3 : Int):=of_decide_eq_true (by first|(with_reducible assumption)|assumption)
         have q416 : x10_3 < (l2.length : Int):=of_decide_eq_true (by first|(with_reducible assumption)|assumption)
         obtain ⟨ad416,e416,hx416_0⟩:=Kd.at_int HR2.out x10_3 p416 q416
         cases e416
         replace p416:=eq_true p416
         replace q416:=eq_true q416
         go_wp2
         repeat (go_quiet (fail);try go_wp2)
         go_ret2
         exact ⟨by first|rfl|(simp;done)|(simp [*];done),by repeat (first|exact Drawn0.refl _|apply Drawn0.step)⟩
       rw [if_neg c27] at H
       have c27b0 : decide (2000 < (wrap64 (Int.tdiv (wrap64 ((wrap64 (x0_3 + (rd l2 x10_3))) * (rd (rd_L2 l1 x10_3) 1))) (wrap64 ((rd (rd_L2 l1 x10_3) 1) - (rd (rd_L2 l1 x10_3) 0)))))) = false:=decide_eq_false c27
       clear c27;have H':=zI H;clear H
       have p412 : 0 ≤ (x10_3 : Int):=of_decide_eq_true (by first|(with_reducible assumption)|assumption)
       have q412 : x10_3 < (l1.length : Int):=of_decide_eq_true (by first|(with_reducible assumption)|assumption)
       obtain ⟨ad412,A412_0,c412_0,e412,hx412_0,hl412_0,hi412_0⟩:=at_L2 HR1.out x10_3 p412 q412
       cases e412
       have HR412_0:=zI hi412_0;have HC412_0:=zI hl412_0;clear hi412_0 hl412_0
       replace p412:=eq_true p412
       replace q412:=eq_true q412
       have p413 : 0 ≤ (0 : Int):=(by omega)
       have q413 : 0 < ((rd_L2 l1 x10_3).length : Int):=of_decide_eq_true (by first|(with_reducible assumption)|assumption)
       obtain ⟨ad413,e413,hx413_0⟩:=Kd.at_int HR412_0.out 0 p413 q413
       cases e413
       have qi413 : (0 < (rd_L2 l1 x10_3).length) = True:=eq_true (by omega)
       (try rw [show ((0 : Int)).toNat = 0 from rfl] at hx413_0);(try rw [Addr.add_zero'] at hx413_0)
       replace p413:=eq_true p413
       replace q413:=eq_true q413
       have p414 : 0 ≤ (x10_3 : Int):=of_decide_eq_true (by first|(with_reducible assumption)|assumption)
       have q414 : x10_3 < (l1.length : Int):=of_decide_eq_true (by first|(with_reducible assumption)|assumption)
       obtain ⟨ad414,A414_0,c414_0,e414,hx414_0,hl414_0,hi414_0⟩:=at_L2 HR1.out x10_3 p414 q414
       obtain rfl : ad412 = ad414:=(by injection e414)
       have HR414_0:=zI hi414_0;have HC414_0:=zI hl414_0;clear hi414_0 hl414_0
       replace p414:=eq_true p414
       replace q414:=eq_true q414
       have ea_:=Option.some.inj (hx412_0.symm.trans hx414_0)
       injection ea_ with ea_ en_ ec_
       subst ea_;subst ec_;clear en_
       have p415 : 0 ≤ (1 : Int):=(by omega)
       have q415 : 1 < ((rd_L2 l1 x10_3).length : Int):=of_decide_eq_true (by first|(with_reducible assumption)|assumption)
       obtain ⟨ad415,e415,hx415_0⟩:=Kd.at_int HR414_0.out 1 p415 q415
       cases e415
       (try simp only [show (1 : Int).toNat = 1 from rfl,Nat.reduceMul,Nat.reduceEqDiff,Go.Addr.add,↓reduceIte] at hx415_0)
       have qi415 : (1 < (rd_L2 l1 x10_3).length) = True:=eq_true (by omega)
       (try rw [show ((1 : Int)).toNat = 1 from rfl] at hx415_0)
       replace p415:=eq_true p415
       replace q415:=eq_true q415
       have p416 : 0 ≤ (x10_3 : Int):=of_decide_eq_true (by first|(with_reducible assumption)|assumption)
       have q416 : x10_3 < (l2.length : Int):=of_decide_eq_true (by first|(with_reducible assumption)|assumption)
       obtain ⟨ad416,e416,hx416_0⟩:=Kd.at_int HR2.out x10_3 p416 q416
       cases e416
       replace p416:=eq_true p416
       replace q416:=eq_true q416
       go_wp2
       repeat (go_quiet (fail);try go_wp2)
       go_roundg k3
       case measure=>have:=HJ3.out;have:=HK2.out;have:=HK3.out;omega
       case rel=>exact ⟨(wrap64 (Int.tdiv (wrap64 ((wrap64 (x0_3 + (rd l2 x10_3))) * (rd (rd_L2 l1 x10_3) 1))) (wrap64 ((rd (rd_L2 l1 x10_3) 1) - (rd (rd_L2 l1 x10_3) 0))))),(wrap64 (x10_3 - 1)),(by first|rfl|(simp;done)|(simp [*];done)),(by first|rfl|(simp;done)|(simp [*];done)),H',⟨by have:=HJ3.out;have:=HK2.out;have:=HK3.out;omega⟩,by repeat (first|exact Drawn0.refl _|apply Drawn0.step)⟩

/-! ### spec_l1All: function 48 -/
def spec_l1All.l0 : Nat → Int → Int → List Int → Int → Int → Option (Bool)
  | 0, _, _, _, _, _ => none
  | k + 1, x1, x2, x9, x10, x11 => if x11 < x10 then (if 0 ≤ x11 then (if x11 < (x9.length : Int) then ((spec_l1In.f (rd x9 x11) x1 x2).bind fun t418 => (if t418 = true then (spec_l1All.l0 k x1 x2 x9 x10 (wrap64 (x11 + 1))) else (some false))) else (none)) else (none)) else (some true)
def spec_l1All.f (k : Nat) (l0 : List Int) (a1 : Int) (a2 : Int) : Option (Bool) := spec_l1All.l0 k a1 a2 l0 (l0.length : Int) 0
theorem spec_l1All.mono_l : ∀ k, (∀ y0 y1 y2 y3 y4, LeO (spec_l1All.l0 k y0 y1 y2 y3 y4) (spec_l1All.l0 (k + 1) y0 y1 y2 y3 y4))
  | 0 => fun _ _ _ _ _ r h => by simp [spec_l1All.l0] at h
  | k + 1 => by
    have ih0 := spec_l1All.mono_l k
    · intro y0 y1 y2 y3 y4
      unfold spec_l1All.l0
      repeat' first
      | (with_reducible exact ih0 _ _ _ _ _)
      | (with_reducible exact LeO.refl _)
      | (with_reducible exact LeO.none _)
      | (with_reducible refine LeO.ite ?_ ?_)
      | (with_reducible refine LeO.bind ?_ (fun _ => ?_))
      | exact ih0 _ _ _ _ _
      | exact LeO.none _
      | refine LeO.ite ?_ ?_
      | refine LeO.bind ?_ (fun _ => ?_)
theorem spec_l1All.mono : ∀ a0 a1 a2 k, LeO (spec_l1All.f k a0 a1 a2) (spec_l1All.f (k + 1) a0 a1 a2) := by
  intro a0 a1 a2 k
  have ih0 := spec_l1All.mono_l k
  unfold spec_l1All.f
  repeat' first
      | (with_reducible exact ih0 _ _ _ _ _)
      | (with_reducible exact LeO.refl _)
      | (with_reducible exact LeO.none _)
      | (with_reducible refine LeO.ite ?_ ?_)
      | (with_reducible refine LeO.bind ?_ (fun _ => ?_))
      | exact ih0 _ _ _ _ _
      | exact LeO.none _
      | refine LeO.ite ?_ ?_
      | refine LeO.bind ?_ (fun _ => ?_)
set_option maxHeartbeats 8000000 in
set_option maxRecDepth 100000 in
theorem spec_l1All.calls (k : Nat) (A0 : Option Addr) (c0 : Nat) (l0 : List Int) (a1 : Int) (a2 : Int) (r : Bool) (w : World) (hr0 : Kd.C (Kd.int .i64) w A0 l0.length l0) (hc0 : l0.length ≤ c0) (h : spec_l1All.f k l0 a1 a2 = some r) :
    Calls Try.prog 48 #[.slice A0 l0.length c0, .int .i64 a1, .int .i64 a2] w fun e w' => e = .returned (.bool r) ∧ Drawn0 w w' := by
 have HR0:=zI hr0;have HC0:=zI hc0;clear hr0 hc0
 have H : (spec_l1All.l0 k a1 a2 l0 (l0.length : Int) 0) = some r:=h
 clear h;have H':=zI H;clear H
 go_enter Try.func48,Try.ntmps48
 go_wp2
 go_loopg [11] k (fun kq v11 w'=>∃ (x11_1 : Int),v11 = .int .i64 x11_1 ∧ Aside0 (spec_l1All.l0 kq a1 a2 l0 (l0.length : Int) x11_1 = some r) ∧ Aside0 (kq ≤ k) ∧ Drawn0 w w')
 case atStart=>exact ⟨(0),(by first|rfl|(simp;done)|(simp [*];done)),H',⟨Nat.le_refl _⟩,by repeat (first|exact Drawn0.refl _|apply Drawn0.step)⟩
 case round =>
  clear H'
  try clear p2
  obtain ⟨x11_1,rfl,HA,HK1,⟨m1,rfl⟩⟩:=hrel
  cases gk with
  | zero=>exact absurd HA.out (by simp [spec_l1All.l0])
  | succ k1 =>
   have H:=HA.out;clear HA
   simp only [spec_l1All.l0] at H
   by_cases c4 : x11_1 < (l0.length : Int)
   rotate_left
   · rw [if_neg c4] at H
     have c4b0 : decide (x11_1 < (l0.length : Int)) = false:=decide_eq_false c4
     clear c4
     obtain rfl:=Option.some.inj H
     go_wp2
     go_ret
     exact ⟨by first|rfl|(simp;done)|(simp [*];done),by repeat (first|exact Drawn0.refl _|apply Drawn0.step)⟩
   rw [if_pos c4] at H
   have c4b0 : decide (x11_1 < (l0.length : Int)) = true:=decide_eq_true c4
   clear c4
   by_cases c5 : 0 ≤ x11_1
   rotate_left
   · rw [if_neg c5] at H
     exact absurd H (by simp)
   rw [if_pos c5] at H
   have c5b0 : decide (0 ≤ x11_1) = true:=decide_eq_true c5
   clear c5
   by_cases c6 : x11_1 < (l0.length : Int)
   rotate_left
   · rw [if_neg c6] at H
     exact absurd H (by simp)
   rw [if_pos c6] at H
   have c6b0 : decide (x11_1 < (l0.length : Int)) = true:=decide_eq_true c6
   clear c6;replace H:=Option.bind_eq_some_iff.mp H
   obtain ⟨t418,A70,H⟩:=H
   replace H : (if t418 = true then (spec_l1All.l0 k1 a1 a2 l0 (l0.length : Int) (wrap64 (x11_1 + 1))) else (some false)) = some r:=H
   have A7:=zI A70;clear A70
   by_cases c8 : t418 = true
   rotate_left
   · replace c8:=Bool.eq_false_iff.mpr c8
     subst c8
     have H1 : (some false) = some r:=by rw [if_neg (show ¬ (false = true) by decide)] at H;exact H
     clear H;have H:=H1;clear H1
     obtain rfl:=Option.some.inj H
     have p417 : 0 ≤ (x11_1 : Int):=of_decide_eq_true (by first|(with_reducible assumption)|assumption)
     have q417 : x11_1 < (l0.length : Int):=of_decide_eq_true (by first|(with_reducible assumption)|assumption)
     obtain ⟨ad417,e417,hx417_0⟩:=Kd.at_int HR0.out x11_1 p417 q417
     cases e417
     replace p417:=eq_true p417
     replace q417:=eq_true q417
     go_wp2_with (first|((with_reducible refine gate_callee (f:=37) rfl ?_);refine goesL_ (some 18) rfl rfl Try.func37 (by kernel_rfl) rfl #[.int .i64 (rd l0 x11_1),.int .i64 a1,.int .i64 a2] rfl (by (try simp only [List.map_toArray,List.map_cons,List.map_nil]);first|done|rfl|(simp only [List.length_drop,List.length_take];rfl)) ?_;(with_reducible refine (spec_l1In.calls (rd l0 x11_1) a1 a2 false _ A7.out).mono ?_);rintro e w' ⟨rfl,⟨nd,rfl⟩⟩;refine ⟨_,rfl,?_⟩))
     go_ret
     exact ⟨by first|rfl|(simp;done)|(simp [*];done),by repeat (first|exact Drawn0.refl _|apply Drawn0.step)⟩
   subst c8
   have H1 : (spec_l1All.l0 k1 a1 a2 l0 (l0.length : Int) (wrap64 (x11_1 + 1))) = some r:=by rw [if_pos rfl] at H;exact H
   clear H;have H:=H1;clear H1;have H':=zI H;clear H
   have p417 : 0 ≤ (x11_1 : Int):=of_decide_eq_true (by first|(with_reducible assumption)|assumption)
   have q417 : x11_1 < (l0.length : Int):=of_decide_eq_true (by first|(with_reducible assumption)|assumption)
   obtain ⟨ad417,e417,hx417_0⟩:=Kd.at_int HR0.out x11_1 p417 q417
   cases e417
   replace p417:=eq_true p417
   replace q417:=eq_true q417
   go_wp2_with (first|((with_reducible refine gate_callee (f:=37) rfl ?_);refine goesL_ (some 18) rfl rfl Try.func37 (by kernel_rfl) rfl #[.int .i64 (rd l0 x11_1),.int .i64 a1,.int .i64 a2] rfl (by (try simp only [List.map_toArray,List.map_cons,List.map_nil]);first|done|rfl|(simp only [List.length_drop,List.length_take];rfl)) ?_;(with_reducible refine (spec_l1In.calls (rd l0 x11_1) a1 a2 true _ A7.out).mono ?_);rintro e w' ⟨rfl,⟨nd,rfl⟩⟩;refine ⟨_,rfl,?_⟩))
   go_roundg k1
   case measure=>have:=HK1.out;omega
   case rel=>exact ⟨(wrap64 (x11_1 + 1)),(by first|rfl|(simp;done)|(simp [*];done)),H',⟨by have:=HK1.out;omega⟩,by repeat (first|exact Drawn0.refl _|apply Drawn0.step)⟩

end Go.Proofs.Ytllakpmepfeinaa.XFnReadersPlan
