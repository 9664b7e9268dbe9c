-- Written by a program of this session: the machine side of the law FnReadersPlan, with contracts proved by hand for what the kit's print doesn't take. Lean checks it.
import Derived.Test.YtllakpmepfeinaaXFnReadersPlanx8
namespace Go.Proofs.Ytllakpmepfeinaa.XFnReadersPlan
open Go.RowKit Go.Proofs.YtllakpmepfeinaaW.PrintWords Go.Proofs.YtllakpmepfeinaaW.PrintLast Go.Proofs.YtllakpmepfeinaaW.PrintMore
attribute [local go_sem] max2_int min2_int max_two min_two max_three min_three max_four min_four   -- for this text's walks alone
set_option linter.unusedVariables false
set_option linter.unusedSimpArgs false

set_option maxHeartbeats 8000000 in
set_option maxRecDepth 100000 in
theorem laws_FnReadersPlan.calls (k : Nat) (A0 : Option Addr) (c0 : Nat) (l0 : List Int) (A1 : Option Addr) (c1 : Nat) (l1 : List Int) (r : Bool) (w : World) (hr0 : Kd.C (Kd.int .u8) w A0 l0.length l0) (hc0 : l0.length ≤ c0) (hr1 : Kd.C (Kd.int .u8) w A1 l1.length l1) (hc1 : l1.length ≤ c1) (h : laws_FnReadersPlan.f k l0 l1 = some r) :
    Calls Try.prog 3 #[.slice A0 l0.length c0, .slice A1 l1.length c1] w fun e w' => e = .returned (.bool r) ∧ Below w.heap.size w w' := by
 have HR0:=zI hr0;have HC0:=zI hc0;clear hr0 hc0;have HR1:=zI hr1;have HC1:=zI hc1;clear hr1 hc1
 have HB:=zI (Below.refl w.heap.size w)
 have H : ((laws_big.f l0 l1).bind fun t436=>(if t436 = true then (some true) else ((spec_DrawEvenPlan.f l0).bind fun bt437=>((impl_EvenPlan.f k bt437.1 bt437.2.1 bt437.2.2).bind fun bt440=>((spec_EvenPlan.f k bt437.1 bt437.2.1 bt437.2.2).bind fun bt444=>((impl_DailyFor.f bt437.1 bt437.2.1 bt437.2.2).bind fun bt448=>((spec_DailyFor.f bt437.1 bt437.2.1 bt437.2.2).bind fun bt450=>(if (bt440.2 != bt444.2) = true then (laws_FnReadersPlan.j0 k l1 bt437.1 bt437.2.1 bt437.2.2 bt440.1 bt440.2 bt448.1 bt448.2 true) else ((laws_xSame.f k bt440.1 bt444.1).bind fun t452=>(if t452 = true then (if (bt448.2 != bt450.2) = true then (laws_FnReadersPlan.j0 k l1 bt437.1 bt437.2.1 bt437.2.2 bt440.1 bt440.2 bt448.1 bt448.2 true) else (if bt448.1 = bt450.1 then (if bt448.2 = true then (laws_FnReadersPlan.j0 k l1 bt437.1 bt437.2.1 bt437.2.2 bt440.1 bt440.2 bt448.1 bt448.2 (!bt440.2)) else (laws_FnReadersPlan.j0 k l1 bt437.1 bt437.2.1 bt437.2.2 bt440.1 bt440.2 bt448.1 bt448.2 false)) else (laws_FnReadersPlan.j0 k l1 bt437.1 bt437.2.1 bt437.2.2 bt440.1 bt440.2 bt448.1 bt448.2 true))) else (laws_FnReadersPlan.j0 k l1 bt437.1 bt437.2.1 bt437.2.2 bt440.1 bt440.2 bt448.1 bt448.2 true))))))))))) = some r:=h
 clear h;replace H:=Option.bind_eq_some_iff.mp H
 obtain ⟨t436,A30,H⟩:=H
 (try dsimp only at H);have A3:=zI A30;clear A30
 by_cases c4 : t436 = true
 · as_aux_lemma =>
   subst c4
   have H1 : (some true) = some r:=by rw [if_pos rfl] at H;exact H
   clear H;have H:=H1;clear H1
   obtain rfl:=Option.some.inj H
   go_enter Try.func3,Try.ntmps3
   go_wp2_with (first|(go_at_call 4;(with_reducible refine (laws_big.calls _ _ l0 _ _ l1 true _ ?side1 ?side2 ?side3 ?side4 A3.out).mono ?_);(case side1=>repeat (first|exact HR0.out|(with_reducible refine zQ ?_ _)|(with_reducible refine zR ?_ _)|(with_reducible refine zS ?_)));(case side2=>exact HC0.out);(case side3=>repeat (first|exact HR1.out|(with_reducible refine zQ ?_ _)|(with_reducible refine zR ?_ _)|(with_reducible refine zS ?_)));(case side4=>exact HC1.out);rintro e w' ⟨rfl,⟨nd,rfl⟩⟩;(try first|exact ⟨rfl,_,zL _ _ _⟩|exact ⟨rfl,_,Eq.trans (zL _ _ _) (congrArg (World.drewN _) (Nat.add_assoc _ _ _))⟩)))
   repeat (go_quiet (first|(go_at_call 4;(with_reducible refine (laws_big.calls _ _ l0 _ _ l1 true _ ?side1 ?side2 ?side3 ?side4 A3.out).mono ?_);(case side1=>repeat (first|exact HR0.out|(with_reducible refine zQ ?_ _)|(with_reducible refine zR ?_ _)|(with_reducible refine zS ?_)));(case side2=>exact HC0.out);(case side3=>repeat (first|exact HR1.out|(with_reducible refine zQ ?_ _)|(with_reducible refine zR ?_ _)|(with_reducible refine zS ?_)));(case side4=>exact HC1.out);rintro e w' ⟨rfl,⟨nd,rfl⟩⟩;(try first|exact ⟨rfl,_,zL _ _ _⟩|exact ⟨rfl,_,Eq.trans (zL _ _ _) (congrArg (World.drewN _) (Nat.add_assoc _ _ _))⟩)));try go_wp2_with (first|(go_at_call 4;(with_reducible refine (laws_big.calls _ _ l0 _ _ l1 true _ ?side1 ?side2 ?side3 ?side4 A3.out).mono ?_);(case side1=>repeat (first|exact HR0.out|(with_reducible refine zQ ?_ _)|(with_reducible refine zR ?_ _)|(with_reducible refine zS ?_)));(case side2=>exact HC0.out);(case side3=>repeat (first|exact HR1.out|(with_reducible refine zQ ?_ _)|(with_reducible refine zR ?_ _)|(with_reducible refine zS ?_)));(case side4=>exact HC1.out);rintro e w' ⟨rfl,⟨nd,rfl⟩⟩;(try first|exact ⟨rfl,_,zL _ _ _⟩|exact ⟨rfl,_,Eq.trans (zL _ _ _) (congrArg (World.drewN _) (Nat.add_assoc _ _ _))⟩))))
   go_ret
   exact ⟨by first|rfl|(simp [errW_none,errW_some] <;> rfl)|(simp [*,errW_none,errW_some] <;> rfl),by repeat (first|(with_reducible first|exact HB.out|apply zJ|apply zG|apply zH)|exact HB.out)⟩
 replace c4:=Bool.eq_false_iff.mpr c4
 subst c4
 have H1 : ((spec_DrawEvenPlan.f l0).bind fun bt437=>((impl_EvenPlan.f k bt437.1 bt437.2.1 bt437.2.2).bind fun bt440=>((spec_EvenPlan.f k bt437.1 bt437.2.1 bt437.2.2).bind fun bt444=>((impl_DailyFor.f bt437.1 bt437.2.1 bt437.2.2).bind fun bt448=>((spec_DailyFor.f bt437.1 bt437.2.1 bt437.2.2).bind fun bt450=>(if (bt440.2 != bt444.2) = true then (laws_FnReadersPlan.j0 k l1 bt437.1 bt437.2.1 bt437.2.2 bt440.1 bt440.2 bt448.1 bt448.2 true) else ((laws_xSame.f k bt440.1 bt444.1).bind fun t452=>(if t452 = true then (if (bt448.2 != bt450.2) = true then (laws_FnReadersPlan.j0 k l1 bt437.1 bt437.2.1 bt437.2.2 bt440.1 bt440.2 bt448.1 bt448.2 true) else (if bt448.1 = bt450.1 then (if bt448.2 = true then (laws_FnReadersPlan.j0 k l1 bt437.1 bt437.2.1 bt437.2.2 bt440.1 bt440.2 bt448.1 bt448.2 (!bt440.2)) else (laws_FnReadersPlan.j0 k l1 bt437.1 bt437.2.1 bt437.2.2 bt440.1 bt440.2 bt448.1 bt448.2 false)) else (laws_FnReadersPlan.j0 k l1 bt437.1 bt437.2.1 bt437.2.2 bt440.1 bt440.2 bt448.1 bt448.2 true))) else (laws_FnReadersPlan.j0 k l1 bt437.1 bt437.2.1 bt437.2.2 bt440.1 bt440.2 bt448.1 bt448.2 true))))))))) = some r:=by rw [if_neg (show ¬ (false = true) by decide)] at H;exact H
 clear H;have H:=H1;clear H1;replace H:=Option.bind_eq_some_iff.mp H
 obtain ⟨⟨t437,t438,t439⟩,A50,H⟩:=H
 (try dsimp only at H);have A5:=zI A50;clear A50;replace H:=Option.bind_eq_some_iff.mp H
 obtain ⟨⟨t440,t441⟩,A60,H⟩:=H
 (try dsimp only at H);have A6:=zI A60;clear A60;replace H:=Option.bind_eq_some_iff.mp H
 obtain ⟨⟨t444,t445⟩,A70,H⟩:=H
 (try dsimp only at H);have A7:=zI A70;clear A70;replace H:=Option.bind_eq_some_iff.mp H
 obtain ⟨⟨t448,t449⟩,A80,H⟩:=H
 (try dsimp only at H);have A8:=zI A80;clear A80;replace H:=Option.bind_eq_some_iff.mp H
 obtain ⟨⟨t450,t451⟩,A90,H⟩:=H
 (try dsimp only at H);have A9:=zI A90;clear A90;have HC10:=zI H;clear H
 go_enter Try.func3,Try.ntmps3
 go_upto_region 8 with (first|(go_at_call 4;(with_reducible refine (laws_big.calls _ _ l0 _ _ l1 false _ ?side1 ?side2 ?side3 ?side4 A3.out).mono ?_);(case side1=>repeat (first|exact HR0.out|(with_reducible refine zQ ?_ _)|(with_reducible refine zR ?_ _)|(with_reducible refine zS ?_)));(case side2=>exact HC0.out);(case side3=>repeat (first|exact HR1.out|(with_reducible refine zQ ?_ _)|(with_reducible refine zR ?_ _)|(with_reducible refine zS ?_)));(case side4=>exact HC1.out);rintro e w' ⟨rfl,⟨nd,rfl⟩⟩;(try first|exact ⟨rfl,_,zL _ _ _⟩|exact ⟨rfl,_,Eq.trans (zL _ _ _) (congrArg (World.drewN _) (Nat.add_assoc _ _ _))⟩))|(go_at_call 5;(with_reducible refine (spec_DrawEvenPlan.calls _ _ l0 t437 t438 t439 _ ?side1 ?side2 A5.out).mono ?_);(case side1=>repeat (first|exact HR0.out|(with_reducible refine zQ ?_ _)|(with_reducible refine zR ?_ _)|(with_reducible refine zS ?_)));(case side2=>exact HC0.out);rintro e w11 ⟨rfl,hb⟩;have n0_:=zI (below_step (by repeat (first|(with_reducible first|exact HB.out|apply zJ|apply zG|apply zH)|exact HB.out)) hb);clear HB;have HB:=n0_;clear n0_;(try clear hb);(try clear hb2);(try clear hk);(try clear hi))|(go_at_call 6;(with_reducible refine (impl_EvenPlan.calls k t437 t438 t439 t440 t441 _ A6.out).mono ?_);rintro e w12 ⟨v442,rfl,ho0,hb⟩;have n0_:=zI (Kd.R_lower ho0 (below_size (by repeat (first|(with_reducible first|exact HB.out|apply zJ|apply zG|apply zH)|exact HB.out))));have n1_:=zI (below_step (by repeat (first|(with_reducible first|exact HB.out|apply zJ|apply zG|apply zH)|exact HB.out)) hb);clear HB;have HO443:=n0_;have HB:=n1_;clear n0_ n1_;(try clear hb);(try clear hb2);(try clear hk);(try clear hi);(try clear ho0))|(go_at_call 7;(with_reducible refine (spec_EvenPlan.calls k t437 t438 t439 t444 t445 _ A7.out).mono ?_);rintro e w13 ⟨v446,rfl,ho0,hb⟩;have n0_:=zI (Kd.R_elder' (by (with_reducible repeat (first|apply zN|apply zO|apply zP));exact HO443.out) (Kd.R_base ho0) hb);have n1_:=zI (Kd.R_lower (Kd.R_new' ho0 (Kd.R_lt (by (with_reducible repeat (first|apply zN|apply zO|apply zP));exact HO443.out))) (below_size (by repeat (first|(with_reducible first|exact HB.out|apply zJ|apply zG|apply zH)|exact HB.out))));have n2_:=zI (below_step (by repeat (first|(with_reducible first|exact HB.out|apply zJ|apply zG|apply zH)|exact HB.out)) hb);clear HO443;clear HB;have HO443:=n0_;have HO447:=n1_;have HB:=n2_;clear n0_ n1_ n2_;(try clear hb);(try clear hb2);(try clear hk);(try clear hi);(try clear ho0))|(go_at_call 8;(with_reducible refine (impl_DailyFor.calls t437 t438 t439 t448 t449 _ A8.out).mono ?_);rintro e w14 ⟨rfl,hb⟩;have n0_:=zI (Kd.R_below (by (with_reducible repeat (first|apply zN|apply zO|apply zP));exact HO443.out) hb);have n1_:=zI (Kd.R_below (by (with_reducible repeat (first|apply zN|apply zO|apply zP));exact HO447.out) hb);have n2_:=zI (below_step (by repeat (first|(with_reducible first|exact HB.out|apply zJ|apply zG|apply zH)|exact HB.out)) hb);clear HO443;clear HO447;clear HB;have HO443:=n0_;have HO447:=n1_;have HB:=n2_;clear n0_ n1_ n2_;(try clear hb);(try clear hb2);(try clear hk);(try clear hi))|(go_at_call 9;(with_reducible refine (spec_DailyFor.calls t437 t438 t439 t450 t451 _ A9.out).mono ?_);rintro e w' ⟨rfl,⟨nd,rfl⟩⟩;(try first|exact ⟨rfl,_,zL _ _ _⟩|exact ⟨rfl,_,Eq.trans (zL _ _ _) (congrArg (World.drewN _) (Nat.add_assoc _ _ _))⟩)))
 repeat (go_quiet (first|(go_at_call 4;(with_reducible refine (laws_big.calls _ _ l0 _ _ l1 false _ ?side1 ?side2 ?side3 ?side4 A3.out).mono ?_);(case side1=>repeat (first|exact HR0.out|(with_reducible refine zQ ?_ _)|(with_reducible refine zR ?_ _)|(with_reducible refine zS ?_)));(case side2=>exact HC0.out);(case side3=>repeat (first|exact HR1.out|(with_reducible refine zQ ?_ _)|(with_reducible refine zR ?_ _)|(with_reducible refine zS ?_)));(case side4=>exact HC1.out);rintro e w' ⟨rfl,⟨nd,rfl⟩⟩;(try first|exact ⟨rfl,_,zL _ _ _⟩|exact ⟨rfl,_,Eq.trans (zL _ _ _) (congrArg (World.drewN _) (Nat.add_assoc _ _ _))⟩))|(go_at_call 5;(with_reducible refine (spec_DrawEvenPlan.calls _ _ l0 t437 t438 t439 _ ?side1 ?side2 A5.out).mono ?_);(case side1=>repeat (first|exact HR0.out|(with_reducible refine zQ ?_ _)|(with_reducible refine zR ?_ _)|(with_reducible refine zS ?_)));(case side2=>exact HC0.out);rintro e w11 ⟨rfl,hb⟩;have n0_:=zI (below_step (by repeat (first|(with_reducible first|exact HB.out|apply zJ|apply zG|apply zH)|exact HB.out)) hb);clear HB;have HB:=n0_;clear n0_;(try clear hb);(try clear hb2);(try clear hk);(try clear hi))|(go_at_call 6;(with_reducible refine (impl_EvenPlan.calls k t437 t438 t439 t440 t441 _ A6.out).mono ?_);rintro e w12 ⟨v442,rfl,ho0,hb⟩;have n0_:=zI (Kd.R_lower ho0 (below_size (by repeat (first|(with_reducible first|exact HB.out|apply zJ|apply zG|apply zH)|exact HB.out))));have n1_:=zI (below_step (by repeat (first|(with_reducible first|exact HB.out|apply zJ|apply zG|apply zH)|exact HB.out)) hb);clear HB;have HO443:=n0_;have HB:=n1_;clear n0_ n1_;(try clear hb);(try clear hb2);(try clear hk);(try clear hi);(try clear ho0))|(go_at_call 7;(with_reducible refine (spec_EvenPlan.calls k t437 t438 t439 t444 t445 _ A7.out).mono ?_);rintro e w13 ⟨v446,rfl,ho0,hb⟩;have n0_:=zI (Kd.R_elder' (by (with_reducible repeat (first|apply zN|apply zO|apply zP));exact HO443.out) (Kd.R_base ho0) hb);have n1_:=zI (Kd.R_lower (Kd.R_new' ho0 (Kd.R_lt (by (with_reducible repeat (first|apply zN|apply zO|apply zP));exact HO443.out))) (below_size (by repeat (first|(with_reducible first|exact HB.out|apply zJ|apply zG|apply zH)|exact HB.out))));have n2_:=zI (below_step (by repeat (first|(with_reducible first|exact HB.out|apply zJ|apply zG|apply zH)|exact HB.out)) hb);clear HO443;clear HB;have HO443:=n0_;have HO447:=n1_;have HB:=n2_;clear n0_ n1_ n2_;(try clear hb);(try clear hb2);(try clear hk);(try clear hi);(try clear ho0))|(go_at_call 8;(with_reducible refine (impl_DailyFor.calls t437 t438 t439 t448 t449 _ A8.out).mono ?_);rintro e w14 ⟨rfl,hb⟩;have n0_:=zI (Kd.R_below (by (with_reducible repeat (first|apply zN|apply zO|apply zP));exact HO443.out) hb);have n1_:=zI (Kd.R_below (by (with_reducible repeat (first|apply zN|apply zO|apply zP));exact HO447.out) hb);have n2_:=zI (below_step (by repeat (first|(with_reducible first|exact HB.out|apply zJ|apply zG|apply zH)|exact HB.out)) hb);clear HO443;clear HO447;clear HB;have HO443:=n0_;have HO447:=n1_;have HB:=n2_;clear n0_ n1_ n2_;(try clear hb);(try clear hb2);(try clear hk);(try clear hi))|(go_at_call 9;(with_reducible refine (spec_DailyFor.calls t437 t438 t439 t450 t451 _ A9.out).mono ?_);rintro e w' ⟨rfl,⟨nd,rfl⟩⟩;(try first|exact ⟨rfl,_,zL _ _ _⟩|exact ⟨rfl,_,Eq.trans (zL _ _ _) (congrArg (World.drewN _) (Nat.add_assoc _ _ _))⟩)));go_upto_region 8 with (first|(go_at_call 4;(with_reducible refine (laws_big.calls _ _ l0 _ _ l1 false _ ?side1 ?side2 ?side3 ?side4 A3.out).mono ?_);(case side1=>repeat (first|exact HR0.out|(with_reducible refine zQ ?_ _)|(with_reducible refine zR ?_ _)|(with_reducible refine zS ?_)));(case side2=>exact HC0.out);(case side3=>repeat (first|exact HR1.out|(with_reducible refine zQ ?_ _)|(with_reducible refine zR ?_ _)|(with_reducible refine zS ?_)));(case side4=>exact HC1.out);rintro e w' ⟨rfl,⟨nd,rfl⟩⟩;(try first|exact ⟨rfl,_,zL _ _ _⟩|exact ⟨rfl,_,Eq.trans (zL _ _ _) (congrArg (World.drewN _) (Nat.add_assoc _ _ _))⟩))|(go_at_call 5;(with_reducible refine (spec_DrawEvenPlan.calls _ _ l0 t437 t438 t439 _ ?side1 ?side2 A5.out).mono ?_);(case side1=>repeat (first|exact HR0.out|(with_reducible refine zQ ?_ _)|(with_reducible refine zR ?_ _)|(with_reducible refine zS ?_)));(case side2=>exact HC0.out);rintro e w11 ⟨rfl,hb⟩;have n0_:=zI (below_step (by repeat (first|(with_reducible first|exact HB.out|apply zJ|apply zG|apply zH)|exact HB.out)) hb);clear HB;have HB:=n0_;clear n0_;(try clear hb);(try clear hb2);(try clear hk);(try clear hi))|(go_at_call 6;(with_reducible refine (impl_EvenPlan.calls k t437 t438 t439 t440 t441 _ A6.out).mono ?_);rintro e w12 ⟨v442,rfl,ho0,hb⟩;have n0_:=zI (Kd.R_lower ho0 (below_size (by repeat (first|(with_reducible first|exact HB.out|apply zJ|apply zG|apply zH)|exact HB.out))));have n1_:=zI (below_step (by repeat (first|(with_reducible first|exact HB.out|apply zJ|apply zG|apply zH)|exact HB.out)) hb);clear HB;have HO443:=n0_;have HB:=n1_;clear n0_ n1_;(try clear hb);(try clear hb2);(try clear hk);(try clear hi);(try clear ho0))|(go_at_call 7;(with_reducible refine (spec_EvenPlan.calls k t437 t438 t439 t444 t445 _ A7.out).mono ?_);rintro e w13 ⟨v446,rfl,ho0,hb⟩;have n0_:=zI (Kd.R_elder' (by (with_reducible repeat (first|apply zN|apply zO|apply zP));exact HO443.out) (Kd.R_base ho0) hb);have n1_:=zI (Kd.R_lower (Kd.R_new' ho0 (Kd.R_lt (by (with_reducible repeat (first|apply zN|apply zO|apply zP));exact HO443.out))) (below_size (by repeat (first|(with_reducible first|exact HB.out|apply zJ|apply zG|apply zH)|exact HB.out))));have n2_:=zI (below_step (by repeat (first|(with_reducible first|exact HB.out|apply zJ|apply zG|apply zH)|exact HB.out)) hb);clear HO443;clear HB;have HO443:=n0_;have HO447:=n1_;have HB:=n2_;clear n0_ n1_ n2_;(try clear hb);(try clear hb2);(try clear hk);(try clear hi);(try clear ho0))|(go_at_call 8;(with_reducible refine (impl_DailyFor.calls t437 t438 t439 t448 t449 _ A8.out).mono ?_);rintro e w14 ⟨rfl,hb⟩;have n0_:=zI (Kd.R_below (by (with_reducible repeat (first|apply zN|apply zO|apply zP));exact HO443.out) hb);have n1_:=zI (Kd.R_below (by (with_reducible repeat (first|apply zN|apply zO|apply zP));exact HO447.out) hb);have n2_:=zI (below_step (by repeat (first|(with_reducible first|exact HB.out|apply zJ|apply zG|apply zH)|exact HB.out)) hb);clear HO443;clear HO447;clear HB;have HO443:=n0_;have HO447:=n1_;have HB:=n2_;clear n0_ n1_ n2_;(try clear hb);(try clear hb2);(try clear hk);(try clear hi))|(go_at_call 9;(with_reducible refine (spec_DailyFor.calls t437 t438 t439 t450 t451 _ A9.out).mono ?_);rintro e w' ⟨rfl,⟨nd,rfl⟩⟩;(try first|exact ⟨rfl,_,zL _ _ _⟩|exact ⟨rfl,_,Eq.trans (zL _ _ _) (congrArg (World.drewN _) (Nat.add_assoc _ _ _))⟩))))
 (try simp only [Act.put,zA,zB,zC])
 go_cut [124] from 62 to 124 (fun v124 wc=>∃ (kq : Nat) (x124_9 : Bool),v124 = .bool x124_9 ∧ Aside0 (laws_FnReadersPlan.j0 kq l1 t437 t438 t439 t440 t441 t448 t449 x124_9 = some r) ∧ Aside0 (kq ≤ k) ∧ Aside0 (Kd.R (Kd.int .i64) 3 wc w.heap.size (fun _=>True) v442 t440) ∧ Aside0 (Below w.heap.size w wc))
 case first => as_aux_lemma =>
  have H:=HC10.out;clear HC10
  by_cases c15 : (t441 != t445) = true
  · as_aux_lemma =>
    rw [if_pos c15] at H
    have c15b0 : (t441 != t445) = true:=c15
    (try (have c15b1 : decide (t441 = t445) = false:=by simpa using c15));(try (have c15b2 : (t441 == t445) = false:=by simpa using c15));(try (have c15b3 : ¬ (t441 = t445):=by simpa using c15));clear c15
    (first|rw [c15b0]|(simp only [i64_w,i32_w];rw [c15b0])|skip)
    (try rw [c15b2]);have H':=zI H;clear H
    go_wp2
    repeat (go_quiet (fail);try go_wp2)
    go_meet
    case rel=>exact ⟨_,(true),(by first|rfl|(simp;done)|(simp [*];done)),H',⟨by first|omega|exact Nat.le_refl _⟩,⟨by (with_reducible repeat (first|apply zN|apply zO|apply zP));exact Kd.R_mono HO443.out (fun _ hk=>trivial)⟩,⟨by repeat (first|(with_reducible first|exact HB.out|apply zJ|apply zG|apply zH)|exact HB.out)⟩⟩
  rw [if_neg c15] at H
  have c15b0 : (t441 != t445) = false:=by simpa using c15
  (try (have c15b1 : decide (t441 = t445) = true:=by simpa using c15));(try (have c15b2 : (t441 == t445) = true:=by simpa using c15));clear c15
  (first|rw [c15b0]|(simp only [i64_w,i32_w];rw [c15b0])|skip)
  (try rw [c15b2]);replace H:=Option.bind_eq_some_iff.mp H
  obtain ⟨t452,A160,H⟩:=H
  (try dsimp only at H);have A16:=zI A160;clear A160
  by_cases c17 : t452 = true
  rotate_left
  · as_aux_lemma =>
    replace c17:=Bool.eq_false_iff.mpr c17
    subst c17
    have H1 : (laws_FnReadersPlan.j0 k l1 t437 t438 t439 t440 t441 t448 t449 true) = some r:=by rw [if_neg (show ¬ (false = true) by decide)] at H;exact H
    clear H;have H:=H1;clear H1;have H':=zI H;clear H
    obtain ⟨Ao29,co29,eo29⟩:=Kd.R_slice HO443.out
    subst eo29
    obtain ⟨Ao30,co30,eo30⟩:=Kd.R_slice HO447.out
    subst eo30
    go_wp2_with (first|(go_at_call 10;(with_reducible refine (laws_xSame.calls k _ _ t440 _ _ t444 false _ ?side1 ?side2 ?side3 ?side4 A16.out).mono ?_);(case side1=>repeat (first|exact (zM HO443.out).2.2|(with_reducible refine zQ ?_ _)|(with_reducible refine zR ?_ _)|(with_reducible refine zS ?_)));(case side2=>exact (zM HO443.out).2.1);(case side3=>repeat (first|exact (zM HO447.out).2.2|(with_reducible refine zQ ?_ _)|(with_reducible refine zR ?_ _)|(with_reducible refine zS ?_)));(case side4=>exact (zM HO447.out).2.1);rintro e w' ⟨rfl,⟨nd,rfl⟩⟩;(try first|exact ⟨rfl,_,zL _ _ _⟩|exact ⟨rfl,_,Eq.trans (zL _ _ _) (congrArg (World.drewN _) (Nat.add_assoc _ _ _))⟩)))
    repeat (go_quiet (first|(go_at_call 10;(with_reducible refine (laws_xSame.calls k _ _ t440 _ _ t444 false _ ?side1 ?side2 ?side3 ?side4 A16.out).mono ?_);(case side1=>repeat (first|exact (zM HO443.out).2.2|(with_reducible refine zQ ?_ _)|(with_reducible refine zR ?_ _)|(with_reducible refine zS ?_)));(case side2=>exact (zM HO443.out).2.1);(case side3=>repeat (first|exact (zM HO447.out).2.2|(with_reducible refine zQ ?_ _)|(with_reducible refine zR ?_ _)|(with_reducible refine zS ?_)));(case side4=>exact (zM HO447.out).2.1);rintro e w' ⟨rfl,⟨nd,rfl⟩⟩;(try first|exact ⟨rfl,_,zL _ _ _⟩|exact ⟨rfl,_,Eq.trans (zL _ _ _) (congrArg (World.drewN _) (Nat.add_assoc _ _ _))⟩)));try go_wp2_with (first|(go_at_call 10;(with_reducible refine (laws_xSame.calls k _ _ t440 _ _ t444 false _ ?side1 ?side2 ?side3 ?side4 A16.out).mono ?_);(case side1=>repeat (first|exact (zM HO443.out).2.2|(with_reducible refine zQ ?_ _)|(with_reducible refine zR ?_ _)|(with_reducible refine zS ?_)));(case side2=>exact (zM HO443.out).2.1);(case side3=>repeat (first|exact (zM HO447.out).2.2|(with_reducible refine zQ ?_ _)|(with_reducible refine zR ?_ _)|(with_reducible refine zS ?_)));(case side4=>exact (zM HO447.out).2.1);rintro e w' ⟨rfl,⟨nd,rfl⟩⟩;(try first|exact ⟨rfl,_,zL _ _ _⟩|exact ⟨rfl,_,Eq.trans (zL _ _ _) (congrArg (World.drewN _) (Nat.add_assoc _ _ _))⟩))))
    go_meet
    case rel=>exact ⟨_,(true),(by first|rfl|(simp;done)|(simp [*];done)),H',⟨by first|omega|exact Nat.le_refl _⟩,⟨by (with_reducible repeat (first|apply zN|apply zO|apply zP));exact Kd.R_mono HO443.out (fun _ hk=>trivial)⟩,⟨by repeat (first|(with_reducible first|exact HB.out|apply zJ|apply zG|apply zH)|exact HB.out)⟩⟩
  subst c17
  have H1 : (if (t449 != t451) = true then (laws_FnReadersPlan.j0 k l1 t437 t438 t439 t440 t441 t448 t449 true) else (if t448 = t450 then (if t449 = true then (laws_FnReadersPlan.j0 k l1 t437 t438 t439 t440 t441 t448 t449 (!t441)) else (laws_FnReadersPlan.j0 k l1 t437 t438 t439 t440 t441 t448 t449 false)) else (laws_FnReadersPlan.j0 k l1 t437 t438 t439 t440 t441 t448 t449 true))) = some r:=by rw [if_pos rfl] at H;exact H
  clear H;have H:=H1;clear H1
  by_cases c18 : (t449 != t451) = true
  · as_aux_lemma =>
    rw [if_pos c18] at H
    have c18b0 : (t449 != t451) = true:=c18
    (try (have c18b1 : decide (t449 = t451) = false:=by simpa using c18));(try (have c18b2 : (t449 == t451) = false:=by simpa using c18));(try (have c18b3 : ¬ (t449 = t451):=by simpa using c18));clear c18;have H':=zI H;clear H
    obtain ⟨Ao19,co19,eo19⟩:=Kd.R_slice HO443.out
    subst eo19
    obtain ⟨Ao20,co20,eo20⟩:=Kd.R_slice HO447.out
    subst eo20
    go_wp2_with (first|(go_at_call 10;(with_reducible refine (laws_xSame.calls k _ _ t440 _ _ t444 true _ ?side1 ?side2 ?side3 ?side4 A16.out).mono ?_);(case side1=>repeat (first|exact (zM HO443.out).2.2|(with_reducible refine zQ ?_ _)|(with_reducible refine zR ?_ _)|(with_reducible refine zS ?_)));(case side2=>exact (zM HO443.out).2.1);(case side3=>repeat (first|exact (zM HO447.out).2.2|(with_reducible refine zQ ?_ _)|(with_reducible refine zR ?_ _)|(with_reducible refine zS ?_)));(case side4=>exact (zM HO447.out).2.1);rintro e w' ⟨rfl,⟨nd,rfl⟩⟩;(try first|exact ⟨rfl,_,zL _ _ _⟩|exact ⟨rfl,_,Eq.trans (zL _ _ _) (congrArg (World.drewN _) (Nat.add_assoc _ _ _))⟩)))
    repeat (go_quiet (first|(go_at_call 10;(with_reducible refine (laws_xSame.calls k _ _ t440 _ _ t444 true _ ?side1 ?side2 ?side3 ?side4 A16.out).mono ?_);(case side1=>repeat (first|exact (zM HO443.out).2.2|(with_reducible refine zQ ?_ _)|(with_reducible refine zR ?_ _)|(with_reducible refine zS ?_)));(case side2=>exact (zM HO443.out).2.1);(case side3=>repeat (first|exact (zM HO447.out).2.2|(with_reducible refine zQ ?_ _)|(with_reducible refine zR ?_ _)|(with_reducible refine zS ?_)));(case side4=>exact (zM HO447.out).2.1);rintro e w' ⟨rfl,⟨nd,rfl⟩⟩;(try first|exact ⟨rfl,_,zL _ _ _⟩|exact ⟨rfl,_,Eq.trans (zL _ _ _) (congrArg (World.drewN _) (Nat.add_assoc _ _ _))⟩)));try go_wp2_with (first|(go_at_call 10;(with_reducible refine (laws_xSame.calls k _ _ t440 _ _ t444 true _ ?side1 ?side2 ?side3 ?side4 A16.out).mono ?_);(case side1=>repeat (first|exact (zM HO443.out).2.2|(with_reducible refine zQ ?_ _)|(with_reducible refine zR ?_ _)|(with_reducible refine zS ?_)));(case side2=>exact (zM HO443.out).2.1);(case side3=>repeat (first|exact (zM HO447.out).2.2|(with_reducible refine zQ ?_ _)|(with_reducible refine zR ?_ _)|(with_reducible refine zS ?_)));(case side4=>exact (zM HO447.out).2.1);rintro e w' ⟨rfl,⟨nd,rfl⟩⟩;(try first|exact ⟨rfl,_,zL _ _ _⟩|exact ⟨rfl,_,Eq.trans (zL _ _ _) (congrArg (World.drewN _) (Nat.add_assoc _ _ _))⟩))))
    go_meet
    case rel=>exact ⟨_,(true),(by first|rfl|(simp;done)|(simp [*];done)),H',⟨by first|omega|exact Nat.le_refl _⟩,⟨by (with_reducible repeat (first|apply zN|apply zO|apply zP));exact Kd.R_mono HO443.out (fun _ hk=>trivial)⟩,⟨by repeat (first|(with_reducible first|exact HB.out|apply zJ|apply zG|apply zH)|exact HB.out)⟩⟩
  rw [if_neg c18] at H
  have c18b0 : (t449 != t451) = false:=by simpa using c18
  (try (have c18b1 : decide (t449 = t451) = true:=by simpa using c18));(try (have c18b2 : (t449 == t451) = true:=by simpa using c18));clear c18
  by_cases c21 : t448 = t450
  rotate_left
  · as_aux_lemma =>
    rw [if_neg c21] at H
    have c21b0 : (t448 == t450) = false:=beq_eq_false_iff_ne.mpr c21
    have c21b1 : (t448 != t450) = true:=bne_iff_ne.mpr c21
    have H':=zI H;clear H
    obtain ⟨Ao27,co27,eo27⟩:=Kd.R_slice HO443.out
    subst eo27
    obtain ⟨Ao28,co28,eo28⟩:=Kd.R_slice HO447.out
    subst eo28
    go_wp2_with (first|(go_at_call 10;(with_reducible refine (laws_xSame.calls k _ _ t440 _ _ t444 true _ ?side1 ?side2 ?side3 ?side4 A16.out).mono ?_);(case side1=>repeat (first|exact (zM HO443.out).2.2|(with_reducible refine zQ ?_ _)|(with_reducible refine zR ?_ _)|(with_reducible refine zS ?_)));(case side2=>exact (zM HO443.out).2.1);(case side3=>repeat (first|exact (zM HO447.out).2.2|(with_reducible refine zQ ?_ _)|(with_reducible refine zR ?_ _)|(with_reducible refine zS ?_)));(case side4=>exact (zM HO447.out).2.1);rintro e w' ⟨rfl,⟨nd,rfl⟩⟩;(try first|exact ⟨rfl,_,zL _ _ _⟩|exact ⟨rfl,_,Eq.trans (zL _ _ _) (congrArg (World.drewN _) (Nat.add_assoc _ _ _))⟩)))
    repeat (go_quiet (first|(go_at_call 10;(with_reducible refine (laws_xSame.calls k _ _ t440 _ _ t444 true _ ?side1 ?side2 ?side3 ?side4 A16.out).mono ?_);(case side1=>repeat (first|exact (zM HO443.out).2.2|(with_reducible refine zQ ?_ _)|(with_reducible refine zR ?_ _)|(with_reducible refine zS ?_)));(case side2=>exact (zM HO443.out).2.1);(case side3=>repeat (first|exact (zM HO447.out).2.2|(with_reducible refine zQ ?_ _)|(with_reducible refine zR ?_ _)|(with_reducible refine zS ?_)));(case side4=>exact (zM HO447.out).2.1);rintro e w' ⟨rfl,⟨nd,rfl⟩⟩;(try first|exact ⟨rfl,_,zL _ _ _⟩|exact ⟨rfl,_,Eq.trans (zL _ _ _) (congrArg (World.drewN _) (Nat.add_assoc _ _ _))⟩)));try go_wp2_with (first|(go_at_call 10;(with_reducible refine (laws_xSame.calls k _ _ t440 _ _ t444 true _ ?side1 ?side2 ?side3 ?side4 A16.out).mono ?_);(case side1=>repeat (first|exact (zM HO443.out).2.2|(with_reducible refine zQ ?_ _)|(with_reducible refine zR ?_ _)|(with_reducible refine zS ?_)));(case side2=>exact (zM HO443.out).2.1);(case side3=>repeat (first|exact (zM HO447.out).2.2|(with_reducible refine zQ ?_ _)|(with_reducible refine zR ?_ _)|(with_reducible refine zS ?_)));(case side4=>exact (zM HO447.out).2.1);rintro e w' ⟨rfl,⟨nd,rfl⟩⟩;(try first|exact ⟨rfl,_,zL _ _ _⟩|exact ⟨rfl,_,Eq.trans (zL _ _ _) (congrArg (World.drewN _) (Nat.add_assoc _ _ _))⟩))))
    go_meet
    case rel=>exact ⟨_,(true),(by first|rfl|(simp;done)|(simp [*];done)),H',⟨by first|omega|exact Nat.le_refl _⟩,⟨by (with_reducible repeat (first|apply zN|apply zO|apply zP));exact Kd.R_mono HO443.out (fun _ hk=>trivial)⟩,⟨by repeat (first|(with_reducible first|exact HB.out|apply zJ|apply zG|apply zH)|exact HB.out)⟩⟩
  rw [if_pos c21] at H
  have c21b0 : (t448 == t450) = true:=beq_iff_eq.mpr c21
  have c21b1 : (t448 != t450) = false:=bne_eq_false_iff_eq.mpr c21
  clear c21
  by_cases c22 : t449 = true
  · as_aux_lemma =>
    subst c22
    have H1 : (laws_FnReadersPlan.j0 k l1 t437 t438 t439 t440 t441 t448 true (!t441)) = some r:=by rw [if_pos rfl] at H;exact H
    clear H;have H:=H1;clear H1;have H':=zI H;clear H
    obtain ⟨Ao23,co23,eo23⟩:=Kd.R_slice HO443.out
    subst eo23
    obtain ⟨Ao24,co24,eo24⟩:=Kd.R_slice HO447.out
    subst eo24
    go_wp2_with (first|(go_at_call 10;(with_reducible refine (laws_xSame.calls k _ _ t440 _ _ t444 true _ ?side1 ?side2 ?side3 ?side4 A16.out).mono ?_);(case side1=>repeat (first|exact (zM HO443.out).2.2|(with_reducible refine zQ ?_ _)|(with_reducible refine zR ?_ _)|(with_reducible refine zS ?_)));(case side2=>exact (zM HO443.out).2.1);(case side3=>repeat (first|exact (zM HO447.out).2.2|(with_reducible refine zQ ?_ _)|(with_reducible refine zR ?_ _)|(with_reducible refine zS ?_)));(case side4=>exact (zM HO447.out).2.1);rintro e w' ⟨rfl,⟨nd,rfl⟩⟩;(try first|exact ⟨rfl,_,zL _ _ _⟩|exact ⟨rfl,_,Eq.trans (zL _ _ _) (congrArg (World.drewN _) (Nat.add_assoc _ _ _))⟩)))
    repeat (go_quiet (first|(go_at_call 10;(with_reducible refine (laws_xSame.calls k _ _ t440 _ _ t444 true _ ?side1 ?side2 ?side3 ?side4 A16.out).mono ?_);(case side1=>repeat (first|exact (zM HO443.out).2.2|(with_reducible refine zQ ?_ _)|(with_reducible refine zR ?_ _)|(with_reducible refine zS ?_)));(case side2=>exact (zM HO443.out).2.1);(case side3=>repeat (first|exact (zM HO447.out).2.2|(with_reducible refine zQ ?_ _)|(with_reducible refine zR ?_ _)|(with_reducible refine zS ?_)));(case side4=>exact (zM HO447.out).2.1);rintro e w' ⟨rfl,⟨nd,rfl⟩⟩;(try first|exact ⟨rfl,_,zL _ _ _⟩|exact ⟨rfl,_,Eq.trans (zL _ _ _) (congrArg (World.drewN _) (Nat.add_assoc _ _ _))⟩)));try go_wp2_with (first|(go_at_call 10;(with_reducible refine (laws_xSame.calls k _ _ t440 _ _ t444 true _ ?side1 ?side2 ?side3 ?side4 A16.out).mono ?_);(case side1=>repeat (first|exact (zM HO443.out).2.2|(with_reducible refine zQ ?_ _)|(with_reducible refine zR ?_ _)|(with_reducible refine zS ?_)));(case side2=>exact (zM HO443.out).2.1);(case side3=>repeat (first|exact (zM HO447.out).2.2|(with_reducible refine zQ ?_ _)|(with_reducible refine zR ?_ _)|(with_reducible refine zS ?_)));(case side4=>exact (zM HO447.out).2.1);rintro e w' ⟨rfl,⟨nd,rfl⟩⟩;(try first|exact ⟨rfl,_,zL _ _ _⟩|exact ⟨rfl,_,Eq.trans (zL _ _ _) (congrArg (World.drewN _) (Nat.add_assoc _ _ _))⟩))))
    go_meet
    case rel=>exact ⟨_,(!t441),(by first|rfl|(simp;done)|(simp [*];done)),H',⟨by first|omega|exact Nat.le_refl _⟩,⟨by (with_reducible repeat (first|apply zN|apply zO|apply zP));exact Kd.R_mono HO443.out (fun _ hk=>trivial)⟩,⟨by repeat (first|(with_reducible first|exact HB.out|apply zJ|apply zG|apply zH)|exact HB.out)⟩⟩
  replace c22:=Bool.eq_false_iff.mpr c22
  subst c22
  have H1 : (laws_FnReadersPlan.j0 k l1 t437 t438 t439 t440 t441 t448 false false) = some r:=by rw [if_neg (show ¬ (false = true) by decide)] at H;exact H
  clear H;have H:=H1;clear H1;have H':=zI H;clear H
  obtain ⟨Ao25,co25,eo25⟩:=Kd.R_slice HO443.out
  subst eo25
  obtain ⟨Ao26,co26,eo26⟩:=Kd.R_slice HO447.out
  subst eo26
  go_wp2_with (first|(go_at_call 10;(with_reducible refine (laws_xSame.calls k _ _ t440 _ _ t444 true _ ?side1 ?side2 ?side3 ?side4 A16.out).mono ?_);(case side1=>repeat (first|exact (zM HO443.out).2.2|(with_reducible refine zQ ?_ _)|(with_reducible refine zR ?_ _)|(with_reducible refine zS ?_)));(case side2=>exact (zM HO443.out).2.1);(case side3=>repeat (first|exact (zM HO447.out).2.2|(with_reducible refine zQ ?_ _)|(with_reducible refine zR ?_ _)|(with_reducible refine zS ?_)));(case side4=>exact (zM HO447.out).2.1);rintro e w' ⟨rfl,⟨nd,rfl⟩⟩;(try first|exact ⟨rfl,_,zL _ _ _⟩|exact ⟨rfl,_,Eq.trans (zL _ _ _) (congrArg (World.drewN _) (Nat.add_assoc _ _ _))⟩)))
  repeat (go_quiet (first|(go_at_call 10;(with_reducible refine (laws_xSame.calls k _ _ t440 _ _ t444 true _ ?side1 ?side2 ?side3 ?side4 A16.out).mono ?_);(case side1=>repeat (first|exact (zM HO443.out).2.2|(with_reducible refine zQ ?_ _)|(with_reducible refine zR ?_ _)|(with_reducible refine zS ?_)));(case side2=>exact (zM HO443.out).2.1);(case side3=>repeat (first|exact (zM HO447.out).2.2|(with_reducible refine zQ ?_ _)|(with_reducible refine zR ?_ _)|(with_reducible refine zS ?_)));(case side4=>exact (zM HO447.out).2.1);rintro e w' ⟨rfl,⟨nd,rfl⟩⟩;(try first|exact ⟨rfl,_,zL _ _ _⟩|exact ⟨rfl,_,Eq.trans (zL _ _ _) (congrArg (World.drewN _) (Nat.add_assoc _ _ _))⟩)));try go_wp2_with (first|(go_at_call 10;(with_reducible refine (laws_xSame.calls k _ _ t440 _ _ t444 true _ ?side1 ?side2 ?side3 ?side4 A16.out).mono ?_);(case side1=>repeat (first|exact (zM HO443.out).2.2|(with_reducible refine zQ ?_ _)|(with_reducible refine zR ?_ _)|(with_reducible refine zS ?_)));(case side2=>exact (zM HO443.out).2.1);(case side3=>repeat (first|exact (zM HO447.out).2.2|(with_reducible refine zQ ?_ _)|(with_reducible refine zR ?_ _)|(with_reducible refine zS ?_)));(case side4=>exact (zM HO447.out).2.1);rintro e w' ⟨rfl,⟨nd,rfl⟩⟩;(try first|exact ⟨rfl,_,zL _ _ _⟩|exact ⟨rfl,_,Eq.trans (zL _ _ _) (congrArg (World.drewN _) (Nat.add_assoc _ _ _))⟩))))
  go_meet
  case rel=>exact ⟨_,(false),(by first|rfl|(simp;done)|(simp [*];done)),H',⟨by first|omega|exact Nat.le_refl _⟩,⟨by (with_reducible repeat (first|apply zN|apply zO|apply zP));exact Kd.R_mono HO443.out (fun _ hk=>trivial)⟩,⟨by repeat (first|(with_reducible first|exact HB.out|apply zJ|apply zG|apply zH)|exact HB.out)⟩⟩
 case rest => as_aux_lemma =>
  clear HC10
  (try clear c1);(try clear c2);(try clear p2);(try clear c3);(try clear c4);(try clear c15);(try clear c15b0);(try clear c15b1);(try clear c15b2);(try clear c17);(try clear c18);(try clear c18b0);(try clear c18b1);(try clear c18b2);(try clear c21);(try clear c21b0);(try clear c21b1);(try clear c22)
  obtain ⟨kq,x124_9,rfl,HA,HJ9,HO_8,HB⟩:=hcut
  cases kq with
  | zero=>exact absurd HA.out (by simp [laws_FnReadersPlan.j0])
  | succ kj9 =>
   have H:=HA.out;clear HA
   simp only [laws_FnReadersPlan.j0] at H
   by_cases c31 : x124_9 = true
   · as_aux_lemma =>
     subst c31
     have H1 : (some false) = some r:=by rw [if_pos rfl] at H;exact H
     clear H;have H:=H1;clear H1
     obtain rfl:=Option.some.inj H
     go_wp2
     repeat (go_quiet (fail);try go_wp2)
     go_ret
     exact ⟨by first|rfl|(simp [errW_none,errW_some] <;> rfl)|(simp [*,errW_none,errW_some] <;> rfl),by repeat (first|(with_reducible first|exact HB.out|apply zJ|apply zG|apply zH)|exact HB.out)⟩
   replace c31:=Bool.eq_false_iff.mpr c31
   subst c31
   have H1 : (if t441 = true then (if (t440.length : Int) = t439 then ((laws_xSum.f kj9 t440).bind fun t453=>(laws_FnReadersPlan.j1 kj9 l1 t440 t448 t449 (t453 != (wrap64 (t437 - t438))))) else (laws_FnReadersPlan.j1 kj9 l1 t440 t448 t449 true)) else (laws_FnReadersPlan.j3 kj9 l1)) = some r:=by rw [if_neg (show ¬ (false = true) by decide)] at H;exact H
   clear H;have H:=H1;clear H1;have HC32:=zI H;clear H
   go_upto_if 125 with (fail)
   repeat (go_quiet (fail);go_upto_if 125 with (fail))
   go_cut [] from 125 to 125 (fun wc=>∃ (kq : Nat),Aside0 (laws_FnReadersPlan.j3 kq l1 = some r) ∧ Aside0 (kq ≤ kj9) ∧ Aside0 (Below w.heap.size w wc))
   case first => as_aux_lemma =>
    have H:=HC32.out;clear HC32
    by_cases c33 : t441 = true
    rotate_left
    · as_aux_lemma =>
      replace c33:=Bool.eq_false_iff.mpr c33
      subst c33
      have H1 : (laws_FnReadersPlan.j3 kj9 l1) = some r:=by rw [if_neg (show ¬ (false = true) by decide)] at H;exact H
      clear H;have H:=H1;clear H1;have H':=zI H;clear H
      go_wp2
      repeat (go_quiet (fail);try go_wp2)
      go_meet
      case rel=>exact ⟨_,H',⟨by have:=HJ9.out;first|omega|exact Nat.le_refl _⟩,⟨by repeat (first|(with_reducible first|exact HB.out|apply zJ|apply zG|apply zH)|exact HB.out)⟩⟩
    subst c33
    have H1 : (if (t440.length : Int) = t439 then ((laws_xSum.f kj9 t440).bind fun t453=>(laws_FnReadersPlan.j1 kj9 l1 t440 t448 t449 (t453 != (wrap64 (t437 - t438))))) else (laws_FnReadersPlan.j1 kj9 l1 t440 t448 t449 true)) = some r:=by rw [if_pos rfl] at H;exact H
    clear H;have H:=H1;clear H1;have HC34:=zI H;clear H
    go_upto_region 11 with (fail)
    repeat (go_quiet (fail);go_upto_region 11 with (fail))
    go_cut [137] from 126 to 137 (fun v137 wc=>∃ (kq : Nat) (x137_33 : Bool),v137 = .bool x137_33 ∧ Aside0 (laws_FnReadersPlan.j1 kq l1 t440 t448 t449 x137_33 = some r) ∧ Aside0 (kq ≤ kj9) ∧ Aside0 (Kd.R (Kd.int .i64) 3 wc w.heap.size (fun _=>True) v442 t440) ∧ Aside0 (Below w.heap.size w wc))
    case first => as_aux_lemma =>
     have H:=HC34.out;clear HC34
     by_cases c35 : (t440.length : Int) = t439
     rotate_left
     · as_aux_lemma =>
       rw [if_neg c35] at H
       have c35b0 : ((t440.length : Int) == t439) = false:=beq_eq_false_iff_ne.mpr c35
       have c35b1 : ((t440.length : Int) != t439) = true:=bne_iff_ne.mpr c35
       (first|rw [c35b0]|(simp only [i64_w,i32_w];rw [c35b0])|skip)
       have H':=zI H;clear H
       obtain ⟨Ao38,co38,eo38⟩:=Kd.R_slice HO_8.out
       subst eo38
       go_wp2
       repeat (go_quiet (fail);try go_wp2)
       go_meet
       case rel=>exact ⟨_,(true),(by first|rfl|(simp;done)|(simp [*];done)),H',⟨by have:=HJ9.out;first|omega|exact Nat.le_refl _⟩,⟨by (with_reducible repeat (first|apply zN|apply zO|apply zP));exact HO_8.out⟩,⟨by repeat (first|(with_reducible first|exact HB.out|apply zJ|apply zG|apply zH)|exact HB.out)⟩⟩
     rw [if_pos c35] at H
     have c35b0 : ((t440.length : Int) == t439) = true:=beq_iff_eq.mpr c35
     have c35b1 : ((t440.length : Int) != t439) = false:=bne_eq_false_iff_eq.mpr c35
     clear c35
     (first|rw [c35b0]|(simp only [i64_w,i32_w];rw [c35b0])|skip)
     replace H:=Option.bind_eq_some_iff.mp H
     obtain ⟨t453,A360,H⟩:=H
     replace H : (laws_FnReadersPlan.j1 kj9 l1 t440 t448 t449 (t453 != (wrap64 (t437 - t438)))) = some r:=H
     have A36:=zI A360;clear A360;have H':=zI H;clear H
     obtain ⟨Ao37,co37,eo37⟩:=Kd.R_slice HO_8.out
     subst eo37
     go_wp2_with (first|(go_at_call 11;(with_reducible refine (laws_xSum.calls kj9 _ _ t440 t453 _ ?side1 ?side2 A36.out).mono ?_);(case side1=>repeat (first|exact (zM HO_8.out).2.2|(with_reducible refine zQ ?_ _)|(with_reducible refine zR ?_ _)|(with_reducible refine zS ?_)));(case side2=>exact (zM HO_8.out).2.1);rintro e w' ⟨rfl,⟨nd,rfl⟩⟩;(try first|exact ⟨rfl,_,zL _ _ _⟩|exact ⟨rfl,_,Eq.trans (zL _ _ _) (congrArg (World.drewN _) (Nat.add_assoc _ _ _))⟩)))
     repeat (go_quiet (first|(go_at_call 11;(with_reducible refine (laws_xSum.calls kj9 _ _ t440 t453 _ ?side1 ?side2 A36.out).mono ?_);(case side1=>repeat (first|exact (zM HO_8.out).2.2|(with_reducible refine zQ ?_ _)|(with_reducible refine zR ?_ _)|(with_reducible refine zS ?_)));(case side2=>exact (zM HO_8.out).2.1);rintro e w' ⟨rfl,⟨nd,rfl⟩⟩;(try first|exact ⟨rfl,_,zL _ _ _⟩|exact ⟨rfl,_,Eq.trans (zL _ _ _) (congrArg (World.drewN _) (Nat.add_assoc _ _ _))⟩)));try go_wp2_with (first|(go_at_call 11;(with_reducible refine (laws_xSum.calls kj9 _ _ t440 t453 _ ?side1 ?side2 A36.out).mono ?_);(case side1=>repeat (first|exact (zM HO_8.out).2.2|(with_reducible refine zQ ?_ _)|(with_reducible refine zR ?_ _)|(with_reducible refine zS ?_)));(case side2=>exact (zM HO_8.out).2.1);rintro e w' ⟨rfl,⟨nd,rfl⟩⟩;(try first|exact ⟨rfl,_,zL _ _ _⟩|exact ⟨rfl,_,Eq.trans (zL _ _ _) (congrArg (World.drewN _) (Nat.add_assoc _ _ _))⟩))))
     go_meet
     case rel=>exact ⟨_,((t453 != (wrap64 (t437 - t438)))),(by first|rfl|(simp;done)|(simp [*];done)),H',⟨by have:=HJ9.out;first|omega|exact Nat.le_refl _⟩,⟨by (with_reducible repeat (first|apply zN|apply zO|apply zP));exact HO_8.out⟩,⟨by repeat (first|(with_reducible first|exact HB.out|apply zJ|apply zG|apply zH)|exact HB.out)⟩⟩
    case rest => as_aux_lemma =>
     clear HC34
     (try clear c1);(try clear c2);(try clear p2);(try clear c3);(try clear c4);(try clear p6);(try clear c15);(try clear c15b0);(try clear c15b1);(try clear c15b2);(try clear c17);(try clear c18);(try clear c18b0);(try clear c18b1);(try clear c18b2);(try clear c21);(try clear c21b0);(try clear c21b1);(try clear c22);(try clear c31);(try clear c33);(try clear c35);(try clear c35b0);(try clear c35b1);(try clear p2)
     obtain ⟨kq,x137_33,rfl,HA,HJ33,HO_8,HB⟩:=hcut
     cases kq with
     | zero=>exact absurd HA.out (by simp [laws_FnReadersPlan.j1])
     | succ kj33 =>
      have H:=HA.out;clear HA
      simp only [laws_FnReadersPlan.j1] at H
      by_cases c39 : x137_33 = true
      · as_aux_lemma =>
        subst c39
        have H1 : (some false) = some r:=by rw [if_pos rfl] at H;exact H
        clear H;have H:=H1;clear H1
        obtain rfl:=Option.some.inj H
        go_wp2
        repeat (go_quiet (fail);try go_wp2)
        go_ret
        exact ⟨by first|rfl|(simp [errW_none,errW_some] <;> rfl)|(simp [*,errW_none,errW_some] <;> rfl),by repeat (first|(with_reducible first|exact HB.out|apply zJ|apply zG|apply zH)|exact HB.out)⟩
      replace c39:=Bool.eq_false_iff.mpr c39
      subst c39
      have H1 : (laws_FnReadersPlan.l0 kj33 l1 t440 t448 t449 t440 (t440.length : Int) 0) = some r:=by rw [if_neg (show ¬ (false = true) by decide)] at H;exact H
      clear H;have H:=H1;clear H1;have H':=zI H;clear H
      obtain ⟨Ao40,co40,eo40⟩:=Kd.R_slice HO_8.out
      subst eo40
      go_wp2
      repeat (go_quiet (fail);try go_wp2)
      go_loopg [140] kj33 (fun kq v140 w'=>∃ (x140_3 : Int),v140 = .int .i64 x140_3 ∧ Aside0 (laws_FnReadersPlan.l0 kq l1 t440 t448 t449 t440 (t440.length : Int) x140_3 = some r) ∧ Aside0 (kq ≤ kj33) ∧ Aside0 (Kd.R (Kd.int .i64) 3 w' w.heap.size (fun _=>True) (.slice Ao40 t440.length co40) t440) ∧ Aside0 (Kd.R (Kd.int .i64) 3 w' w.heap.size (fun _=>True) (.slice Ao40 t440.length co40) t440) ∧ Aside0 (Below w.heap.size w w'))
      case atStart=>exact ⟨(0),(by first|rfl|(simp;done)|(simp [*];done)),H',⟨Nat.le_refl _⟩,⟨by (with_reducible repeat (first|apply zN|apply zO|apply zP));exact HO_8.out⟩,⟨by (with_reducible repeat (first|apply zN|apply zO|apply zP));exact HO_8.out⟩,⟨by repeat (first|(with_reducible first|exact HB.out|apply zJ|apply zG|apply zH)|exact HB.out)⟩⟩
      case round =>
       clear H'
       (try clear c1);(try clear c2);(try clear p2);(try clear c3);(try clear c4);(try clear p6);(try clear c15);(try clear c15b0);(try clear c15b1);(try clear c15b2);(try clear c17);(try clear c18);(try clear c18b0);(try clear c18b1);(try clear c18b2);(try clear c21);(try clear c21b0);(try clear c21b1);(try clear c22);(try clear c31);(try clear c33);(try clear c35);(try clear c35b0);(try clear c35b1);(try clear c39);(try clear p2);(try clear p6)
       obtain ⟨x140_3,rfl,HA,HK3,HO_8,HO_138,HB⟩:=hrel
       cases gk with
       | zero=>exact absurd HA.out (by simp [laws_FnReadersPlan.l0])
       | succ k3 =>
        have H:=HA.out;clear HA
        simp only [laws_FnReadersPlan.l0] at H
        by_cases c41 : x140_3 < (t440.length : Int)
        rotate_left
        · as_aux_lemma =>
          rw [if_neg c41] at H
          have c41b0 : decide (x140_3 < (t440.length : Int)) = false:=decide_eq_false c41
          clear c41
          by_cases c53 : t449 = true
          rotate_left
          · as_aux_lemma =>
            replace c53:=Bool.eq_false_iff.mpr c53
            subst c53
            have H1 : (if 0 < (t440.length : Int) then (if (rd t440 0) ≤ 200 then (if (rd t440 0) > 0 then (some false) else (laws_FnReadersPlan.j3 k3 l1)) else (laws_FnReadersPlan.j3 k3 l1)) else (none)) = some r:=by rw [if_neg (show ¬ (false = true) by decide)] at H;exact H
            clear H;have H:=H1;clear H1
            by_cases c58 : 0 < (t440.length : Int)
            rotate_left
            · rw [if_neg c58] at H
              exact absurd H (by simp)
            rw [if_pos c58] at H
            have c58b0 : decide (0 < (t440.length : Int)) = true:=decide_eq_true c58
            have c58b1 : decide (0 < t440.length) = true:=decide_eq_true (by omega)
            clear c58
            by_cases c59 : (rd t440 0) ≤ 200
            rotate_left
            · as_aux_lemma =>
              rw [if_neg c59] at H
              have c59b0 : decide ((rd t440 0) ≤ 200) = false:=decide_eq_false c59
              clear c59;have H':=zI H;clear H
              have p460 : 0 ≤ (0 : Int):=(by omega)
              have q460 : 0 < (t440.length : Int):=of_decide_eq_true (by first|(with_reducible assumption)|assumption)
              obtain ⟨ad460,e460,hx460_0⟩:=Kd.at_int (zM HO_8.out).2.2 0 p460 q460
              cases e460
              have qi460 : (0 < t440.length) = True:=eq_true (by omega)
              (try rw [show ((0 : Int)).toNat = 0 from rfl] at hx460_0);(try rw [Addr.add_zero'] at hx460_0)
              replace p460:=eq_true p460
              replace q460:=eq_true q460
              go_wp2
              repeat (go_quiet (fail);try go_wp2)
              go_meet
              case rel=>exact ⟨_,H',⟨by have:=HJ9.out;have:=HJ33.out;have:=HK3.out;first|omega|exact Nat.le_refl _⟩,⟨by repeat (first|(with_reducible first|exact HB.out|apply zJ|apply zG|apply zH)|exact HB.out)⟩⟩
            rw [if_pos c59] at H
            have c59b0 : decide ((rd t440 0) ≤ 200) = true:=decide_eq_true c59
            clear c59
            by_cases c60 : (rd t440 0) > 0
            · as_aux_lemma =>
              rw [if_pos c60] at H
              have c60b0 : decide (0 < (rd t440 0)) = true:=decide_eq_true c60
              clear c60
              obtain rfl:=Option.some.inj H
              have p460 : 0 ≤ (0 : Int):=(by omega)
              have q460 : 0 < (t440.length : Int):=of_decide_eq_true (by first|(with_reducible assumption)|assumption)
              obtain ⟨ad460,e460,hx460_0⟩:=Kd.at_int (zM HO_8.out).2.2 0 p460 q460
              cases e460
              have qi460 : (0 < t440.length) = True:=eq_true (by omega)
              (try rw [show ((0 : Int)).toNat = 0 from rfl] at hx460_0);(try rw [Addr.add_zero'] at hx460_0)
              replace p460:=eq_true p460
              replace q460:=eq_true q460
              have p461 : 0 ≤ (0 : Int):=(by omega)
              have q461 : 0 < (t440.length : Int):=of_decide_eq_true (by first|(with_reducible assumption)|assumption)
              obtain ⟨ad461,e461,hx461_0⟩:=Kd.at_int (zM HO_8.out).2.2 0 p461 q461
              obtain rfl : ad460 = ad461:=(by injection e461)
              have qi461 : (0 < t440.length) = True:=eq_true (by omega)
              (try rw [show ((0 : Int)).toNat = 0 from rfl] at hx461_0);(try rw [Addr.add_zero'] at hx461_0)
              replace p461:=eq_true p461
              replace q461:=eq_true q461
              go_wp2
              repeat (go_quiet (fail);try go_wp2)
              go_ret
              exact ⟨by first|rfl|(simp [errW_none,errW_some] <;> rfl)|(simp [*,errW_none,errW_some] <;> rfl),by repeat (first|(with_reducible first|exact HB.out|apply zJ|apply zG|apply zH)|exact HB.out)⟩
            rw [if_neg c60] at H
            have c60b0 : decide (0 < (rd t440 0)) = false:=decide_eq_false c60
            clear c60;have H':=zI H;clear H
            have p460 : 0 ≤ (0 : Int):=(by omega)
            have q460 : 0 < (t440.length : Int):=of_decide_eq_true (by first|(with_reducible assumption)|assumption)
            obtain ⟨ad460,e460,hx460_0⟩:=Kd.at_int (zM HO_8.out).2.2 0 p460 q460
            cases e460
            have qi460 : (0 < t440.length) = True:=eq_true (by omega)
            (try rw [show ((0 : Int)).toNat = 0 from rfl] at hx460_0);(try rw [Addr.add_zero'] at hx460_0)
            replace p460:=eq_true p460
            replace q460:=eq_true q460
            have p461 : 0 ≤ (0 : Int):=(by omega)
            have q461 : 0 < (t440.length : Int):=of_decide_eq_true (by first|(with_reducible assumption)|assumption)
            obtain ⟨ad461,e461,hx461_0⟩:=Kd.at_int (zM HO_8.out).2.2 0 p461 q461
            obtain rfl : ad460 = ad461:=(by injection e461)
            have qi461 : (0 < t440.length) = True:=eq_true (by omega)
            (try rw [show ((0 : Int)).toNat = 0 from rfl] at hx461_0);(try rw [Addr.add_zero'] at hx461_0)
            replace p461:=eq_true p461
            replace q461:=eq_true q461
            go_wp2
            repeat (go_quiet (fail);try go_wp2)
            go_meet
            case rel=>exact ⟨_,H',⟨by have:=HJ9.out;have:=HJ33.out;have:=HK3.out;first|omega|exact Nat.le_refl _⟩,⟨by repeat (first|(with_reducible first|exact HB.out|apply zJ|apply zG|apply zH)|exact HB.out)⟩⟩
          subst c53
          have H1 : (if 0 < (t440.length : Int) then (if t448 < (rd t440 0) then (some false) else (if t448 > (rd t440 0) then (if t448 = 1 then (laws_FnReadersPlan.j3 k3 l1) else (some false)) else (laws_FnReadersPlan.j3 k3 l1))) else (none)) = some r:=by rw [if_pos rfl] at H;exact H
          clear H;have H:=H1;clear H1
          by_cases c54 : 0 < (t440.length : Int)
          rotate_left
          · rw [if_neg c54] at H
            exact absurd H (by simp)
          rw [if_pos c54] at H
          have c54b0 : decide (0 < (t440.length : Int)) = true:=decide_eq_true c54
          have c54b1 : decide (0 < t440.length) = true:=decide_eq_true (by omega)
          clear c54
          by_cases c55 : t448 < (rd t440 0)
          · as_aux_lemma =>
            rw [if_pos c55] at H
            have c55b0 : decide (t448 < (rd t440 0)) = true:=decide_eq_true c55
            clear c55
            obtain rfl:=Option.some.inj H
            have p458 : 0 ≤ (0 : Int):=(by omega)
            have q458 : 0 < (t440.length : Int):=of_decide_eq_true (by first|(with_reducible assumption)|assumption)
            obtain ⟨ad458,e458,hx458_0⟩:=Kd.at_int (zM HO_8.out).2.2 0 p458 q458
            cases e458
            have qi458 : (0 < t440.length) = True:=eq_true (by omega)
            (try rw [show ((0 : Int)).toNat = 0 from rfl] at hx458_0);(try rw [Addr.add_zero'] at hx458_0)
            replace p458:=eq_true p458
            replace q458:=eq_true q458
            go_wp2
            repeat (go_quiet (fail);try go_wp2)
            go_ret
            exact ⟨by first|rfl|(simp [errW_none,errW_some] <;> rfl)|(simp [*,errW_none,errW_some] <;> rfl),by repeat (first|(with_reducible first|exact HB.out|apply zJ|apply zG|apply zH)|exact HB.out)⟩
          rw [if_neg c55] at H
          have c55b0 : decide (t448 < (rd t440 0)) = false:=decide_eq_false c55
          clear c55
          by_cases c56 : t448 > (rd t440 0)
          rotate_left
          · as_aux_lemma =>
            rw [if_neg c56] at H
            have c56b0 : decide ((rd t440 0) < t448) = false:=decide_eq_false c56
            clear c56;have H':=zI H;clear H
            have p458 : 0 ≤ (0 : Int):=(by omega)
            have q458 : 0 < (t440.length : Int):=of_decide_eq_true (by first|(with_reducible assumption)|assumption)
            obtain ⟨ad458,e458,hx458_0⟩:=Kd.at_int (zM HO_8.out).2.2 0 p458 q458
            cases e458
            have qi458 : (0 < t440.length) = True:=eq_true (by omega)
            (try rw [show ((0 : Int)).toNat = 0 from rfl] at hx458_0);(try rw [Addr.add_zero'] at hx458_0)
            replace p458:=eq_true p458
            replace q458:=eq_true q458
            have p459 : 0 ≤ (0 : Int):=(by omega)
            have q459 : 0 < (t440.length : Int):=of_decide_eq_true (by first|(with_reducible assumption)|assumption)
            obtain ⟨ad459,e459,hx459_0⟩:=Kd.at_int (zM HO_8.out).2.2 0 p459 q459
            obtain rfl : ad458 = ad459:=(by injection e459)
            have qi459 : (0 < t440.length) = True:=eq_true (by omega)
            (try rw [show ((0 : Int)).toNat = 0 from rfl] at hx459_0);(try rw [Addr.add_zero'] at hx459_0)
            replace p459:=eq_true p459
            replace q459:=eq_true q459
            go_wp2
            repeat (go_quiet (fail);try go_wp2)
            go_meet
            case rel=>exact ⟨_,H',⟨by have:=HJ9.out;have:=HJ33.out;have:=HK3.out;first|omega|exact Nat.le_refl _⟩,⟨by repeat (first|(with_reducible first|exact HB.out|apply zJ|apply zG|apply zH)|exact HB.out)⟩⟩
          rw [if_pos c56] at H
          have c56b0 : decide ((rd t440 0) < t448) = true:=decide_eq_true c56
          clear c56
          by_cases c57 : t448 = 1
          rotate_left
          · as_aux_lemma =>
            rw [if_neg c57] at H
            have c57b0 : (t448 == 1) = false:=beq_eq_false_iff_ne.mpr c57
            have c57b1 : (t448 != 1) = true:=bne_iff_ne.mpr c57
            obtain rfl:=Option.some.inj H
            have p458 : 0 ≤ (0 : Int):=(by omega)
            have q458 : 0 < (t440.length : Int):=of_decide_eq_true (by first|(with_reducible assumption)|assumption)
            obtain ⟨ad458,e458,hx458_0⟩:=Kd.at_int (zM HO_8.out).2.2 0 p458 q458
            cases e458
            have qi458 : (0 < t440.length) = True:=eq_true (by omega)
            (try rw [show ((0 : Int)).toNat = 0 from rfl] at hx458_0);(try rw [Addr.add_zero'] at hx458_0)
            replace p458:=eq_true p458
            replace q458:=eq_true q458
            have p459 : 0 ≤ (0 : Int):=(by omega)
            have q459 : 0 < (t440.length : Int):=of_decide_eq_true (by first|(with_reducible assumption)|assumption)
            obtain ⟨ad459,e459,hx459_0⟩:=Kd.at_int (zM HO_8.out).2.2 0 p459 q459
            obtain rfl : ad458 = ad459:=(by injection e459)
            have qi459 : (0 < t440.length) = True:=eq_true (by omega)
            (try rw [show ((0 : Int)).toNat = 0 from rfl] at hx459_0);(try rw [Addr.add_zero'] at hx459_0)
            replace p459:=eq_true p459
            replace q459:=eq_true q459
            go_wp2
            repeat (go_quiet (fail);try go_wp2)
            go_ret
            exact ⟨by first|rfl|(simp [errW_none,errW_some] <;> rfl)|(simp [*,errW_none,errW_some] <;> rfl),by repeat (first|(with_reducible first|exact HB.out|apply zJ|apply zG|apply zH)|exact HB.out)⟩
          rw [if_pos c57] at H
          have c57b0 : (t448 == 1) = true:=beq_iff_eq.mpr c57
          have c57b1 : (t448 != 1) = false:=bne_eq_false_iff_eq.mpr c57
          clear c57;have H':=zI H;clear H
          have p458 : 0 ≤ (0 : Int):=(by omega)
          have q458 : 0 < (t440.length : Int):=of_decide_eq_true (by first|(with_reducible assumption)|assumption)
          obtain ⟨ad458,e458,hx458_0⟩:=Kd.at_int (zM HO_8.out).2.2 0 p458 q458
          cases e458
          have qi458 : (0 < t440.length) = True:=eq_true (by omega)
          (try rw [show ((0 : Int)).toNat = 0 from rfl] at hx458_0);(try rw [Addr.add_zero'] at hx458_0)
          replace p458:=eq_true p458
          replace q458:=eq_true q458
          have p459 : 0 ≤ (0 : Int):=(by omega)
          have q459 : 0 < (t440.length : Int):=of_decide_eq_true (by first|(with_reducible assumption)|assumption)
          obtain ⟨ad459,e459,hx459_0⟩:=Kd.at_int (zM HO_8.out).2.2 0 p459 q459
          obtain rfl : ad458 = ad459:=(by injection e459)
          have qi459 : (0 < t440.length) = True:=eq_true (by omega)
          (try rw [show ((0 : Int)).toNat = 0 from rfl] at hx459_0);(try rw [Addr.add_zero'] at hx459_0)
          replace p459:=eq_true p459
          replace q459:=eq_true q459
          go_wp2
          repeat (go_quiet (fail);try go_wp2)
          go_meet
          case rel=>exact ⟨_,H',⟨by have:=HJ9.out;have:=HJ33.out;have:=HK3.out;first|omega|exact Nat.le_refl _⟩,⟨by repeat (first|(with_reducible first|exact HB.out|apply zJ|apply zG|apply zH)|exact HB.out)⟩⟩
        rw [if_pos c41] at H
        have c41b0 : decide (x140_3 < (t440.length : Int)) = true:=decide_eq_true c41
        clear c41
        by_cases c42 : 0 ≤ x140_3
        rotate_left
        · rw [if_neg c42] at H
          exact absurd H (by simp)
        rw [if_pos c42] at H
        have c42b0 : decide (0 ≤ x140_3) = true:=decide_eq_true c42
        clear c42
        by_cases c43 : x140_3 < (t440.length : Int)
        rotate_left
        · rw [if_neg c43] at H
          exact absurd H (by simp)
        rw [if_pos c43] at H
        have c43b0 : decide (x140_3 < (t440.length : Int)) = true:=decide_eq_true c43
        clear c43
        by_cases c44 : (rd t440 x140_3) < 0
        · as_aux_lemma =>
          rw [if_pos c44] at H
          have c44b0 : decide ((rd t440 x140_3) < 0) = true:=decide_eq_true c44
          clear c44
          obtain rfl:=Option.some.inj H
          have p454 : 0 ≤ (x140_3 : Int):=of_decide_eq_true (by first|(with_reducible assumption)|assumption)
          have q454 : x140_3 < (t440.length : Int):=of_decide_eq_true (by first|(with_reducible assumption)|assumption)
          obtain ⟨ad454,e454,hx454_0⟩:=Kd.at_int (zM HO_138.out).2.2 x140_3 p454 q454
          cases e454
          replace p454:=eq_true p454
          replace q454:=eq_true q454
          go_wp2
          repeat (go_quiet (fail);try go_wp2)
          go_ret
          exact ⟨by first|rfl|(simp [errW_none,errW_some] <;> rfl)|(simp [*,errW_none,errW_some] <;> rfl),by repeat (first|(with_reducible first|exact HB.out|apply zJ|apply zG|apply zH)|exact HB.out)⟩
        rw [if_neg c44] at H
        have c44b0 : decide ((rd t440 x140_3) < 0) = false:=decide_eq_false c44
        clear c44
        by_cases c45 : 0 < (t440.length : Int)
        rotate_left
        · rw [if_neg c45] at H
          exact absurd H (by simp)
        rw [if_pos c45] at H
        have c45b0 : decide (0 < (t440.length : Int)) = true:=decide_eq_true c45
        have c45b1 : decide (0 < t440.length) = true:=decide_eq_true (by omega)
        clear c45
        by_cases c46 : (rd t440 x140_3) > (rd t440 0)
        · as_aux_lemma =>
          rw [if_pos c46] at H
          have c46b0 : decide ((rd t440 0) < (rd t440 x140_3)) = true:=decide_eq_true c46
          clear c46
          obtain rfl:=Option.some.inj H
          have p454 : 0 ≤ (x140_3 : Int):=of_decide_eq_true (by first|(with_reducible assumption)|assumption)
          have q454 : x140_3 < (t440.length : Int):=of_decide_eq_true (by first|(with_reducible assumption)|assumption)
          obtain ⟨ad454,e454,hx454_0⟩:=Kd.at_int (zM HO_138.out).2.2 x140_3 p454 q454
          cases e454
          replace p454:=eq_true p454
          replace q454:=eq_true q454
          have p455 : 0 ≤ (0 : Int):=(by omega)
          have q455 : 0 < (t440.length : Int):=of_decide_eq_true (by first|(with_reducible assumption)|assumption)
          obtain ⟨ad455,e455,hx455_0⟩:=Kd.at_int (zM HO_8.out).2.2 0 p455 q455
          obtain rfl : ad454 = ad455:=(by injection e455)
          have qi455 : (0 < t440.length) = True:=eq_true (by omega)
          (try rw [show ((0 : Int)).toNat = 0 from rfl] at hx455_0);(try rw [Addr.add_zero'] at hx455_0)
          replace p455:=eq_true p455
          replace q455:=eq_true q455
          go_wp2
          repeat (go_quiet (fail);try go_wp2)
          go_ret
          exact ⟨by first|rfl|(simp [errW_none,errW_some] <;> rfl)|(simp [*,errW_none,errW_some] <;> rfl),by repeat (first|(with_reducible first|exact HB.out|apply zJ|apply zG|apply zH)|exact HB.out)⟩
        rw [if_neg c46] at H
        have c46b0 : decide ((rd t440 0) < (rd t440 x140_3)) = false:=decide_eq_false c46
        clear c46
        by_cases c47 : (wrap64 ((rd t440 0) - (rd t440 x140_3))) > 1
        · as_aux_lemma =>
          rw [if_pos c47] at H
          have c47b0 : decide (1 < (wrap64 ((rd t440 0) - (rd t440 x140_3)))) = true:=decide_eq_true c47
          clear c47
          obtain rfl:=Option.some.inj H
          have p454 : 0 ≤ (x140_3 : Int):=of_decide_eq_true (by first|(with_reducible assumption)|assumption)
          have q454 : x140_3 < (t440.length : Int):=of_decide_eq_true (by first|(with_reducible assumption)|assumption)
          obtain ⟨ad454,e454,hx454_0⟩:=Kd.at_int (zM HO_138.out).2.2 x140_3 p454 q454
          cases e454
          replace p454:=eq_true p454
          replace q454:=eq_true q454
          have p455 : 0 ≤ (0 : Int):=(by omega)
          have q455 : 0 < (t440.length : Int):=of_decide_eq_true (by first|(with_reducible assumption)|assumption)
          obtain ⟨ad455,e455,hx455_0⟩:=Kd.at_int (zM HO_8.out).2.2 0 p455 q455
          obtain rfl : ad454 = ad455:=(by injection e455)
          have qi455 : (0 < t440.length) = True:=eq_true (by omega)
          (try rw [show ((0 : Int)).toNat = 0 from rfl] at hx455_0);(try rw [Addr.add_zero'] at hx455_0)
          replace p455:=eq_true p455
          replace q455:=eq_true q455
          have p456 : 0 ≤ (0 : Int):=(by omega)
          have q456 : 0 < (t440.length : Int):=of_decide_eq_true (by first|(with_reducible assumption)|assumption)
          obtain ⟨ad456,e456,hx456_0⟩:=Kd.at_int (zM HO_8.out).2.2 0 p456 q456
          obtain rfl : ad454 = ad456:=(by injection e456)
          have qi456 : (0 < t440.length) = True:=eq_true (by omega)
          (try rw [show ((0 : Int)).toNat = 0 from rfl] at hx456_0);(try rw [Addr.add_zero'] at hx456_0)
          replace p456:=eq_true p456
          replace q456:=eq_true q456
          go_wp2
          repeat (go_quiet (fail);try go_wp2)
          go_ret
          exact ⟨by first|rfl|(simp [errW_none,errW_some] <;> rfl)|(simp [*,errW_none,errW_some] <;> rfl),by repeat (first|(with_reducible first|exact HB.out|apply zJ|apply zG|apply zH)|exact HB.out)⟩
        rw [if_neg c47] at H
        have c47b0 : decide (1 < (wrap64 ((rd t440 0) - (rd t440 x140_3)))) = false:=decide_eq_false c47
        clear c47
        by_cases c48 : x140_3 > 0
        rotate_left
        · as_aux_lemma =>
          rw [if_neg c48] at H
          have c48b0 : decide (0 < x140_3) = false:=decide_eq_false c48
          clear c48;have H':=zI H;clear H
          have p454 : 0 ≤ (x140_3 : Int):=of_decide_eq_true (by first|(with_reducible assumption)|assumption)
          have q454 : x140_3 < (t440.length : Int):=of_decide_eq_true (by first|(with_reducible assumption)|assumption)
          obtain ⟨ad454,e454,hx454_0⟩:=Kd.at_int (zM HO_138.out).2.2 x140_3 p454 q454
          cases e454
          replace p454:=eq_true p454
          replace q454:=eq_true q454
          have p455 : 0 ≤ (0 : Int):=(by omega)
          have q455 : 0 < (t440.length : Int):=of_decide_eq_true (by first|(with_reducible assumption)|assumption)
          obtain ⟨ad455,e455,hx455_0⟩:=Kd.at_int (zM HO_8.out).2.2 0 p455 q455
          obtain rfl : ad454 = ad455:=(by injection e455)
          have qi455 : (0 < t440.length) = True:=eq_true (by omega)
          (try rw [show ((0 : Int)).toNat = 0 from rfl] at hx455_0);(try rw [Addr.add_zero'] at hx455_0)
          replace p455:=eq_true p455
          replace q455:=eq_true q455
          have p456 : 0 ≤ (0 : Int):=(by omega)
          have q456 : 0 < (t440.length : Int):=of_decide_eq_true (by first|(with_reducible assumption)|assumption)
          obtain ⟨ad456,e456,hx456_0⟩:=Kd.at_int (zM HO_8.out).2.2 0 p456 q456
          obtain rfl : ad454 = ad456:=(by injection e456)
          have qi456 : (0 < t440.length) = True:=eq_true (by omega)
          (try rw [show ((0 : Int)).toNat = 0 from rfl] at hx456_0);(try rw [Addr.add_zero'] at hx456_0)
          replace p456:=eq_true p456
          replace q456:=eq_true q456
          go_wp2
          repeat (go_quiet (fail);try go_wp2)
          go_roundg k3
          case measure=>have:=HJ9.out;have:=HJ33.out;have:=HK3.out;omega
          case rel=>exact ⟨(wrap64 (x140_3 + 1)),(by first|rfl|(simp;done)|(simp [*];done)),H',⟨by have:=HJ9.out;have:=HJ33.out;have:=HK3.out;omega⟩,⟨by (with_reducible repeat (first|apply zN|apply zO|apply zP));exact HO_8.out⟩,⟨by (with_reducible repeat (first|apply zN|apply zO|apply zP));exact HO_138.out⟩,⟨by repeat (first|(with_reducible first|exact HB.out|apply zJ|apply zG|apply zH)|exact HB.out)⟩⟩
        rw [if_pos c48] at H
        have c48b0 : decide (0 < x140_3) = true:=decide_eq_true c48
        clear c48
        obtain ⟨ji49,hji49⟩ : ∃ j_ : Int,(wrap64 (x140_3 - 1)) = j_:=⟨_,rfl⟩
        replace H : (if 0 ≤ (ji49) then (if (ji49) < (t440.length : Int) then (if (rd t440 (ji49)) < (rd t440 x140_3) then (some false) else (laws_FnReadersPlan.l0 k3 l1 t440 t448 t449 t440 (t440.length : Int) (wrap64 (x140_3 + 1)))) else (none)) else (none)) = some r:=by first|(rw [hji49] at H;exact H)|(simp only [hji49] at H ⊢;exact H)
        have hji49w : (IntKind.i64.wrap (x140_3 - 1)) = ji49:=(i64_w _).trans hji49
        by_cases c50 : 0 ≤ (ji49)
        rotate_left
        · rw [if_neg c50] at H
          exact absurd H (by simp)
        rw [if_pos c50] at H
        have c50b0 : decide (0 ≤ (ji49)) = true:=decide_eq_true c50
        clear c50
        by_cases c51 : (ji49) < (t440.length : Int)
        rotate_left
        · rw [if_neg c51] at H
          exact absurd H (by simp)
        rw [if_pos c51] at H
        have c51b0 : decide ((ji49) < (t440.length : Int)) = true:=decide_eq_true c51
        clear c51
        by_cases c52 : (rd t440 (ji49)) < (rd t440 x140_3)
        · as_aux_lemma =>
          rw [if_pos c52] at H
          have c52b0 : decide ((rd t440 (ji49)) < (rd t440 x140_3)) = true:=decide_eq_true c52
          clear c52
          obtain rfl:=Option.some.inj H
          have p454 : 0 ≤ (x140_3 : Int):=of_decide_eq_true (by first|(with_reducible assumption)|assumption)
          have q454 : x140_3 < (t440.length : Int):=of_decide_eq_true (by first|(with_reducible assumption)|assumption)
          obtain ⟨ad454,e454,hx454_0⟩:=Kd.at_int (zM HO_138.out).2.2 x140_3 p454 q454
          cases e454
          replace p454:=eq_true p454
          replace q454:=eq_true q454
          have p455 : 0 ≤ (0 : Int):=(by omega)
          have q455 : 0 < (t440.length : Int):=of_decide_eq_true (by first|(with_reducible assumption)|assumption)
          obtain ⟨ad455,e455,hx455_0⟩:=Kd.at_int (zM HO_8.out).2.2 0 p455 q455
          obtain rfl : ad454 = ad455:=(by injection e455)
          have qi455 : (0 < t440.length) = True:=eq_true (by omega)
          (try rw [show ((0 : Int)).toNat = 0 from rfl] at hx455_0);(try rw [Addr.add_zero'] at hx455_0)
          replace p455:=eq_true p455
          replace q455:=eq_true q455
          have p456 : 0 ≤ (0 : Int):=(by omega)
          have q456 : 0 < (t440.length : Int):=of_decide_eq_true (by first|(with_reducible assumption)|assumption)
          obtain ⟨ad456,e456,hx456_0⟩:=Kd.at_int (zM HO_8.out).2.2 0 p456 q456
          obtain rfl : ad454 = ad456:=(by injection e456)
          have qi456 : (0 < t440.length) = True:=eq_true (by omega)
          (try rw [show ((0 : Int)).toNat = 0 from rfl] at hx456_0);(try rw [Addr.add_zero'] at hx456_0)
          replace p456:=eq_true p456
          replace q456:=eq_true q456
          have p457 : 0 ≤ ((ji49) : Int):=of_decide_eq_true (by first|(with_reducible assumption)|assumption)
          have q457 : (ji49) < (t440.length : Int):=of_decide_eq_true (by first|(with_reducible assumption)|assumption)
          obtain ⟨ad457,e457,hx457_0⟩:=Kd.at_int (zM HO_8.out).2.2 (ji49) p457 q457
          obtain rfl : ad454 = ad457:=(by injection e457)
          replace p457:=eq_true p457
          replace q457:=eq_true q457
          go_wp2
          repeat (go_quiet (fail);try go_wp2)
          go_ret
          exact ⟨by first|rfl|(simp [errW_none,errW_some] <;> rfl)|(simp only [← hji49];first|rfl|(simp [errW_none,errW_some] <;> rfl))|(simp [*,errW_none,errW_some] <;> rfl),by repeat (first|(with_reducible first|exact HB.out|apply zJ|apply zG|apply zH)|exact HB.out)⟩
        rw [if_neg c52] at H
        have c52b0 : decide ((rd t440 (ji49)) < (rd t440 x140_3)) = false:=decide_eq_false c52
        clear c52;have H':=zI H;clear H
        have p454 : 0 ≤ (x140_3 : Int):=of_decide_eq_true (by first|(with_reducible assumption)|assumption)
        have q454 : x140_3 < (t440.length : Int):=of_decide_eq_true (by first|(with_reducible assumption)|assumption)
        obtain ⟨ad454,e454,hx454_0⟩:=Kd.at_int (zM HO_138.out).2.2 x140_3 p454 q454
        cases e454
        replace p454:=eq_true p454
        replace q454:=eq_true q454
        have p455 : 0 ≤ (0 : Int):=(by omega)
        have q455 : 0 < (t440.length : Int):=of_decide_eq_true (by first|(with_reducible assumption)|assumption)
        obtain ⟨ad455,e455,hx455_0⟩:=Kd.at_int (zM HO_8.out).2.2 0 p455 q455
        obtain rfl : ad454 = ad455:=(by injection e455)
        have qi455 : (0 < t440.length) = True:=eq_true (by omega)
        (try rw [show ((0 : Int)).toNat = 0 from rfl] at hx455_0);(try rw [Addr.add_zero'] at hx455_0)
        replace p455:=eq_true p455
        replace q455:=eq_true q455
        have p456 : 0 ≤ (0 : Int):=(by omega)
        have q456 : 0 < (t440.length : Int):=of_decide_eq_true (by first|(with_reducible assumption)|assumption)
        obtain ⟨ad456,e456,hx456_0⟩:=Kd.at_int (zM HO_8.out).2.2 0 p456 q456
        obtain rfl : ad454 = ad456:=(by injection e456)
        have qi456 : (0 < t440.length) = True:=eq_true (by omega)
        (try rw [show ((0 : Int)).toNat = 0 from rfl] at hx456_0);(try rw [Addr.add_zero'] at hx456_0)
        replace p456:=eq_true p456
        replace q456:=eq_true q456
        have p457 : 0 ≤ ((ji49) : Int):=of_decide_eq_true (by first|(with_reducible assumption)|assumption)
        have q457 : (ji49) < (t440.length : Int):=of_decide_eq_true (by first|(with_reducible assumption)|assumption)
        obtain ⟨ad457,e457,hx457_0⟩:=Kd.at_int (zM HO_8.out).2.2 (ji49) p457 q457
        obtain rfl : ad454 = ad457:=(by injection e457)
        replace p457:=eq_true p457
        replace q457:=eq_true q457
        go_wp2
        repeat (go_quiet (fail);try go_wp2)
        go_roundg k3
        case measure=>have:=HJ9.out;have:=HJ33.out;have:=HK3.out;omega
        case rel=>exact ⟨(wrap64 (x140_3 + 1)),(by first|rfl|(simp;done)|(simp [*];done)),H',⟨by have:=HJ9.out;have:=HJ33.out;have:=HK3.out;omega⟩,⟨by (with_reducible repeat (first|apply zN|apply zO|apply zP));exact HO_8.out⟩,⟨by (with_reducible repeat (first|apply zN|apply zO|apply zP));exact HO_138.out⟩,⟨by repeat (first|(with_reducible first|exact HB.out|apply zJ|apply zG|apply zH)|exact HB.out)⟩⟩
   case rest => as_aux_lemma =>
    clear HC32
    (try clear c1);(try clear c2);(try clear p2);(try clear c3);(try clear c4);(try clear p4);(try clear q4);(try clear hx4);(try clear qi4);(try clear c5);(try clear c6);(try clear p6);(try clear c15);(try clear c15b0);(try clear c15b1);(try clear c15b2);(try clear c17);(try clear c18);(try clear c18b0);(try clear c18b1);(try clear c18b2);(try clear c21);(try clear c21b0);(try clear c21b1);(try clear c22);(try clear c31);(try clear c33);(try clear c35);(try clear c35b0);(try clear c35b1);(try clear c39);(try clear c41);(try clear c41b0);(try clear c42);(try clear c42b0);(try clear c43);(try clear c43b0);(try clear c44);(try clear c44b0);(try clear c45);(try clear c45b0);(try clear c45b1);(try clear p45);(try clear q45);(try clear hx45);(try clear qi45);(try clear c46);(try clear c46b0);(try clear p46);(try clear q46);(try clear hx46);(try clear qi46);(try clear c47);(try clear c47b0);(try clear c48);(try clear c48b0);(try clear c50);(try clear c50b0);(try clear c51);(try clear c51b0);(try clear c52);(try clear c52b0);(try clear c53);(try clear c54);(try clear c54b0);(try clear c54b1);(try clear c55);(try clear c55b0);(try clear c56);(try clear c56b0);(try clear c57);(try clear c57b0);(try clear c57b1);(try clear c58);(try clear c58b0);(try clear c58b1);(try clear c59);(try clear c59b0);(try clear c60);(try clear c60b0);(try clear hx454_0);(try clear hx455_0);(try clear hx456_0);(try clear hx457_0);(try clear hx458_0);(try clear hx459_0);(try clear hx460_0);(try clear hx461_0);(try clear p2);(try clear p454);(try clear p455);(try clear p456);(try clear p457);(try clear p458);(try clear p459);(try clear p460);(try clear p461);(try clear p6);(try clear q454);(try clear q455);(try clear q456);(try clear q457);(try clear q458);(try clear q459);(try clear q460);(try clear q461)
    obtain ⟨kq,HA,HJ31,HB⟩:=hcut
    cases kq with
    | zero=>exact absurd HA.out (by simp [laws_FnReadersPlan.j3])
    | succ kj31 =>
     have H:=HA.out;clear HA
     simp only [laws_FnReadersPlan.j3] at H
     replace H:=Option.bind_eq_some_iff.mp H
     obtain ⟨⟨t462,t463,t464⟩,A610,H⟩:=H
     (try dsimp only at H);have A61:=zI A610;clear A610;replace H:=Option.bind_eq_some_iff.mp H
     obtain ⟨⟨t465,t466⟩,A620,H⟩:=H
     (try dsimp only at H);have A62:=zI A620;clear A620;replace H:=Option.bind_eq_some_iff.mp H
     obtain ⟨⟨t469,t470⟩,A630,H⟩:=H
     (try dsimp only at H);have A63:=zI A630;clear A630;replace H:=Option.bind_eq_some_iff.mp H
     obtain ⟨⟨t473,t474,t475⟩,A640,H⟩:=H
     (try dsimp only at H);have A64:=zI A640;clear A640;replace H:=Option.bind_eq_some_iff.mp H
     obtain ⟨⟨t476,t477⟩,A650,H⟩:=H
     (try dsimp only at H);have A65:=zI A650;clear A650;replace H:=Option.bind_eq_some_iff.mp H
     obtain ⟨⟨t478,t479⟩,A660,H⟩:=H
     (try dsimp only at H);have A66:=zI A660;clear A660;replace H:=Option.bind_eq_some_iff.mp H
     obtain ⟨⟨t480,t481,t482⟩,A670,H⟩:=H
     (try dsimp only at H);have A67:=zI A670;clear A670;replace H:=Option.bind_eq_some_iff.mp H
     obtain ⟨⟨t483,t484⟩,A680,H⟩:=H
     (try dsimp only at H);have A68:=zI A680;clear A680;replace H:=Option.bind_eq_some_iff.mp H
     obtain ⟨⟨t487,t488⟩,A690,H⟩:=H
     (try dsimp only at H);have A69:=zI A690;clear A690;replace H:=Option.bind_eq_some_iff.mp H
     obtain ⟨⟨t491,t492⟩,A700,H⟩:=H
     (try dsimp only at H);have A70:=zI A700;clear A700;replace H:=Option.bind_eq_some_iff.mp H
     obtain ⟨⟨t493,t494⟩,A710,H⟩:=H
     (try dsimp only at H);have A71:=zI A710;clear A710;replace H:=Option.bind_eq_some_iff.mp H
     obtain ⟨⟨t495,t496,t497⟩,A720,H⟩:=H
     (try dsimp only at H);have A72:=zI A720;clear A720;replace H:=Option.bind_eq_some_iff.mp H
     obtain ⟨⟨t502,t503⟩,A730,H⟩:=H
     (try dsimp only at H);have A73:=zI A730;clear A730;replace H:=Option.bind_eq_some_iff.mp H
     obtain ⟨⟨t504,t505⟩,A740,H⟩:=H
     (try dsimp only at H);have A74:=zI A740;clear A740;have HC75:=zI H;clear H
     go_upto_region 35 with (first|(go_at_call 12;(with_reducible refine (spec_DrawRisingPlan.calls _ _ l1 t462 t463 t464 _ ?side1 ?side2 A61.out).mono ?_);(case side1=>repeat (first|exact (Kd.C_below HR1.out HB.out)|(with_reducible refine zQ ?_ _)|(with_reducible refine zR ?_ _)|(with_reducible refine zS ?_)));(case side2=>exact HC1.out);rintro e w76 ⟨rfl,hb⟩;have n0_:=zI (below_step (by repeat (first|(with_reducible first|exact HB.out|apply zJ|apply zG|apply zH)|exact HB.out)) hb);clear HB;have HB:=n0_;clear n0_;(try clear hb);(try clear hb2);(try clear hk);(try clear hi))|(go_at_call 13;(with_reducible refine (impl_RisingPlan.calls kj31 t462 t463 t464 t465 t466 _ A62.out).mono ?_);rintro e w77 ⟨v467,rfl,ho0,hb⟩;have n0_:=zI (Kd.R_lower ho0 (below_size (by repeat (first|(with_reducible first|exact HB.out|apply zJ|apply zG|apply zH)|exact HB.out))));have n1_:=zI (below_step (by repeat (first|(with_reducible first|exact HB.out|apply zJ|apply zG|apply zH)|exact HB.out)) hb);clear HB;have HO468:=n0_;have HB:=n1_;clear n0_ n1_;(try clear hb);(try clear hb2);(try clear hk);(try clear hi);(try clear ho0))|(go_at_call 14;(with_reducible refine (spec_RisingPlan.calls kj31 t462 t463 t464 t469 t470 _ A63.out).mono ?_);rintro e w78 ⟨v471,rfl,ho0,hb⟩;have n0_:=zI (Kd.R_elder' (by (with_reducible repeat (first|apply zN|apply zO|apply zP));exact HO468.out) (Kd.R_base ho0) hb);have n1_:=zI (Kd.R_lower (Kd.R_new' ho0 (Kd.R_lt (by (with_reducible repeat (first|apply zN|apply zO|apply zP));exact HO468.out))) (below_size (by repeat (first|(with_reducible first|exact HB.out|apply zJ|apply zG|apply zH)|exact HB.out))));have n2_:=zI (below_step (by repeat (first|(with_reducible first|exact HB.out|apply zJ|apply zG|apply zH)|exact HB.out)) hb);clear HO468;clear HB;have HO468:=n0_;have HO472:=n1_;have HB:=n2_;clear n0_ n1_ n2_;(try clear hb);(try clear hb2);(try clear hk);(try clear hi);(try clear ho0))|(go_at_call 15;(with_reducible refine (spec_DrawFirstForRising.calls _ _ l1 t473 t474 t475 _ ?side1 ?side2 A64.out).mono ?_);(case side1=>repeat (first|exact (Kd.C_below HR1.out HB.out)|(with_reducible refine zQ ?_ _)|(with_reducible refine zR ?_ _)|(with_reducible refine zS ?_)));(case side2=>exact HC1.out);rintro e w79 ⟨rfl,hb⟩;have n0_:=zI (Kd.R_below (by (with_reducible repeat (first|apply zN|apply zO|apply zP));exact HO468.out) hb);have n1_:=zI (Kd.R_below (by (with_reducible repeat (first|apply zN|apply zO|apply zP));exact HO472.out) hb);have n2_:=zI (below_step (by repeat (first|(with_reducible first|exact HB.out|apply zJ|apply zG|apply zH)|exact HB.out)) hb);clear HO468;clear HO472;clear HB;have HO468:=n0_;have HO472:=n1_;have HB:=n2_;clear n0_ n1_ n2_;(try clear hb);(try clear hb2);(try clear hk);(try clear hi))|(go_at_call 16;(with_reducible refine (impl_FirstForRising.calls kj31 t473 t474 t475 t476 t477 _ A65.out).mono ?_);rintro e w80 ⟨rfl,hb⟩;have n0_:=zI (Kd.R_below (by (with_reducible repeat (first|apply zN|apply zO|apply zP));exact HO468.out) hb);have n1_:=zI (Kd.R_below (by (with_reducible repeat (first|apply zN|apply zO|apply zP));exact HO472.out) hb);have n2_:=zI (below_step (by repeat (first|(with_reducible first|exact HB.out|apply zJ|apply zG|apply zH)|exact HB.out)) hb);clear HO468;clear HO472;clear HB;have HO468:=n0_;have HO472:=n1_;have HB:=n2_;clear n0_ n1_ n2_;(try clear hb);(try clear hb2);(try clear hk);(try clear hi))|(go_at_call 17;(with_reducible refine (spec_FirstForRising.calls kj31 t473 t474 t475 t478 t479 _ A66.out).mono ?_);rintro e w81 ⟨rfl,hb⟩;have n0_:=zI (Kd.R_below (by (with_reducible repeat (first|apply zN|apply zO|apply zP));exact HO468.out) hb);have n1_:=zI (Kd.R_below (by (with_reducible repeat (first|apply zN|apply zO|apply zP));exact HO472.out) hb);have n2_:=zI (below_step (by repeat (first|(with_reducible first|exact HB.out|apply zJ|apply zG|apply zH)|exact HB.out)) hb);clear HO468;clear HO472;clear HB;have HO468:=n0_;have HO472:=n1_;have HB:=n2_;clear n0_ n1_ n2_;(try clear hb);(try clear hb2);(try clear hk);(try clear hi))|(go_at_call 18;(with_reducible refine (spec_DrawPartPlan.calls _ _ l1 t480 t481 t482 _ ?side1 ?side2 A67.out).mono ?_);(case side1=>repeat (first|exact (Kd.C_below HR1.out HB.out)|(with_reducible refine zQ ?_ _)|(with_reducible refine zR ?_ _)|(with_reducible refine zS ?_)));(case side2=>exact HC1.out);rintro e w82 ⟨rfl,hb⟩;have n0_:=zI (Kd.R_below (by (with_reducible repeat (first|apply zN|apply zO|apply zP));exact HO468.out) hb);have n1_:=zI (Kd.R_below (by (with_reducible repeat (first|apply zN|apply zO|apply zP));exact HO472.out) hb);have n2_:=zI (below_step (by repeat (first|(with_reducible first|exact HB.out|apply zJ|apply zG|apply zH)|exact HB.out)) hb);clear HO468;clear HO472;clear HB;have HO468:=n0_;have HO472:=n1_;have HB:=n2_;clear n0_ n1_ n2_;(try clear hb);(try clear hb2);(try clear hk);(try clear hi))|(go_at_call 19;(with_reducible refine (impl_PartPlan.calls kj31 t480 t481 t482 t483 t484 _ A68.out).mono ?_);rintro e w83 ⟨v485,rfl,ho0,hb⟩;have n0_:=zI (Kd.R_elder' (by (with_reducible repeat (first|apply zN|apply zO|apply zP));exact HO468.out) (Kd.R_base ho0) hb);have n1_:=zI (Kd.R_elder' (by (with_reducible repeat (first|apply zN|apply zO|apply zP));exact HO472.out) (Kd.R_base ho0) hb);have n2_:=zI (Kd.R_lower (Kd.R_new' (Kd.R_new' ho0 (Kd.R_lt (by (with_reducible repeat (first|apply zN|apply zO|apply zP));exact HO468.out))) (Kd.R_lt (by (with_reducible repeat (first|apply zN|apply zO|apply zP));exact HO472.out))) (below_size (by repeat (first|(with_reducible first|exact HB.out|apply zJ|apply zG|apply zH)|exact HB.out))));have n3_:=zI (below_step (by repeat (first|(with_reducible first|exact HB.out|apply zJ|apply zG|apply zH)|exact HB.out)) hb);clear HO468;clear HO472;clear HB;have HO468:=n0_;have HO472:=n1_;have HO486:=n2_;have HB:=n3_;clear n0_ n1_ n2_ n3_;(try clear hb);(try clear hb2);(try clear hk);(try clear hi);(try clear ho0))|(go_at_call 20;(with_reducible refine (spec_PartPlan.calls kj31 t480 t481 t482 t487 t488 _ A69.out).mono ?_);rintro e w84 ⟨v489,rfl,ho0,hb⟩;have n0_:=zI (Kd.R_elder' (by (with_reducible repeat (first|apply zN|apply zO|apply zP));exact HO468.out) (Kd.R_base ho0) hb);have n1_:=zI (Kd.R_elder' (by (with_reducible repeat (first|apply zN|apply zO|apply zP));exact HO472.out) (Kd.R_base ho0) hb);have n2_:=zI (Kd.R_elder' (by (with_reducible repeat (first|apply zN|apply zO|apply zP));exact HO486.out) (Kd.R_base ho0) hb);have n3_:=zI (Kd.R_lower (Kd.R_new' (Kd.R_new' (Kd.R_new' ho0 (Kd.R_lt (by (with_reducible repeat (first|apply zN|apply zO|apply zP));exact HO468.out))) (Kd.R_lt (by (with_reducible repeat (first|apply zN|apply zO|apply zP));exact HO472.out))) (Kd.R_lt (by (with_reducible repeat (first|apply zN|apply zO|apply zP));exact HO486.out))) (below_size (by repeat (first|(with_reducible first|exact HB.out|apply zJ|apply zG|apply zH)|exact HB.out))));have n4_:=zI (below_step (by repeat (first|(with_reducible first|exact HB.out|apply zJ|apply zG|apply zH)|exact HB.out)) hb);clear HO468;clear HO472;clear HO486;clear HB;have HO468:=n0_;have HO472:=n1_;have HO486:=n2_;have HO490:=n3_;have HB:=n4_;clear n0_ n1_ n2_ n3_ n4_;(try clear hb);(try clear hb2);(try clear hk);(try clear hi);(try clear ho0))|(go_at_call 21;(with_reducible refine (impl_DaysOfParts.calls kj31 t480 t481 t482 t491 t492 _ A70.out).mono ?_);rintro e w85 ⟨rfl,hb⟩;have n0_:=zI (Kd.R_below (by (with_reducible repeat (first|apply zN|apply zO|apply zP));exact HO468.out) hb);have n1_:=zI (Kd.R_below (by (with_reducible repeat (first|apply zN|apply zO|apply zP));exact HO472.out) hb);have n2_:=zI (Kd.R_below (by (with_reducible repeat (first|apply zN|apply zO|apply zP));exact HO486.out) hb);have n3_:=zI (Kd.R_below (by (with_reducible repeat (first|apply zN|apply zO|apply zP));exact HO490.out) hb);have n4_:=zI (below_step (by repeat (first|(with_reducible first|exact HB.out|apply zJ|apply zG|apply zH)|exact HB.out)) hb);clear HO468;clear HO472;clear HO486;clear HO490;clear HB;have HO468:=n0_;have HO472:=n1_;have HO486:=n2_;have HO490:=n3_;have HB:=n4_;clear n0_ n1_ n2_ n3_ n4_;(try clear hb);(try clear hb2);(try clear hk);(try clear hi))|(go_at_call 22;(with_reducible refine (spec_DaysOfParts.calls kj31 t480 t481 t482 t493 t494 _ A71.out).mono ?_);rintro e w86 ⟨rfl,hb⟩;have n0_:=zI (Kd.R_below (by (with_reducible repeat (first|apply zN|apply zO|apply zP));exact HO468.out) hb);have n1_:=zI (Kd.R_below (by (with_reducible repeat (first|apply zN|apply zO|apply zP));exact HO472.out) hb);have n2_:=zI (Kd.R_below (by (with_reducible repeat (first|apply zN|apply zO|apply zP));exact HO486.out) hb);have n3_:=zI (Kd.R_below (by (with_reducible repeat (first|apply zN|apply zO|apply zP));exact HO490.out) hb);have n4_:=zI (below_step (by repeat (first|(with_reducible first|exact HB.out|apply zJ|apply zG|apply zH)|exact HB.out)) hb);clear HO468;clear HO472;clear HO486;clear HO490;clear HB;have HO468:=n0_;have HO472:=n1_;have HO486:=n2_;have HO490:=n3_;have HB:=n4_;clear n0_ n1_ n2_ n3_ n4_;(try clear hb);(try clear hb2);(try clear hk);(try clear hi))|(go_at_call 23;(with_reducible refine (spec_DrawAfterParts.calls kj31 _ _ l1 t495 t496 t497 _ ?side1 ?side2 A72.out).mono ?_);(case side1=>repeat (first|exact (Kd.C_below HR1.out HB.out)|(with_reducible refine zQ ?_ _)|(with_reducible refine zR ?_ _)|(with_reducible refine zS ?_)));(case side2=>exact HC1.out);rintro e w87 ⟨v498,v500,rfl,ho0,ho1,hb⟩;have n0_:=zI (Kd.R_elder' (by (with_reducible repeat (first|apply zN|apply zO|apply zP));exact HO468.out) (Kd.R_base ho1) hb);have n1_:=zI (Kd.R_elder' (by (with_reducible repeat (first|apply zN|apply zO|apply zP));exact HO472.out) (Kd.R_base ho1) hb);have n2_:=zI (Kd.R_elder' (by (with_reducible repeat (first|apply zN|apply zO|apply zP));exact HO486.out) (Kd.R_base ho1) hb);have n3_:=zI (Kd.R_elder' (by (with_reducible repeat (first|apply zN|apply zO|apply zP));exact HO490.out) (Kd.R_base ho1) hb);have n4_:=zI (Kd.S_lower (Kd.S_new' (Kd.S_new' (Kd.S_new' (Kd.S_new' ho0 (Kd.R_lt (by (with_reducible repeat (first|apply zN|apply zO|apply zP));exact HO468.out))) (Kd.R_lt (by (with_reducible repeat (first|apply zN|apply zO|apply zP));exact HO472.out))) (Kd.R_lt (by (with_reducible repeat (first|apply zN|apply zO|apply zP));exact HO486.out))) (Kd.R_lt (by (with_reducible repeat (first|apply zN|apply zO|apply zP));exact HO490.out))) (below_size (by repeat (first|(with_reducible first|exact HB.out|apply zJ|apply zG|apply zH)|exact HB.out))));have n5_:=zI (Kd.R_lower (Kd.R_new' (Kd.R_new' (Kd.R_new' (Kd.R_new' ho1 (Kd.R_lt (by (with_reducible repeat (first|apply zN|apply zO|apply zP));exact HO468.out))) (Kd.R_lt (by (with_reducible repeat (first|apply zN|apply zO|apply zP));exact HO472.out))) (Kd.R_lt (by (with_reducible repeat (first|apply zN|apply zO|apply zP));exact HO486.out))) (Kd.R_lt (by (with_reducible repeat (first|apply zN|apply zO|apply zP));exact HO490.out))) (below_size (by repeat (first|(with_reducible first|exact HB.out|apply zJ|apply zG|apply zH)|exact HB.out))));have n6_:=zI (below_step (by repeat (first|(with_reducible first|exact HB.out|apply zJ|apply zG|apply zH)|exact HB.out)) hb);clear HO468;clear HO472;clear HO486;clear HO490;clear HB;have HO468:=n0_;have HO472:=n1_;have HO486:=n2_;have HO490:=n3_;have HO499:=n4_;have HO501:=n5_;have HB:=n6_;clear n0_ n1_ n2_ n3_ n4_ n5_ n6_;(try clear hb);(try clear hb2);(try clear hk);(try clear hi);(try clear ho0);(try clear ho1);obtain ⟨Ao88,co88,eo88⟩:=Kd.S_slice HO499.out;subst eo88;obtain ⟨Ao89,co89,eo89⟩:=Kd.R_slice HO501.out;subst eo89)|(go_at_call 24;(with_reducible refine (impl_AfterParts.calls kj31 t495 _ _ t496 _ _ t497 t502 t503 _ ?side1 ?side2 ?side3 ?side4 A73.out).mono ?_);(case side1=>repeat (first|exact (Kd.S_reads' HO499.out).2.2|(with_reducible refine zQ ?_ _)|(with_reducible refine zR ?_ _)|(with_reducible refine zS ?_)));(case side2=>exact (Kd.S_reads' HO499.out).2.1);(case side3=>repeat (first|exact (zM HO501.out).2.2|(with_reducible refine zQ ?_ _)|(with_reducible refine zR ?_ _)|(with_reducible refine zS ?_)));(case side4=>exact (zM HO501.out).2.1);rintro e w' ⟨rfl,⟨nd,rfl⟩⟩;(try first|exact ⟨rfl,_,zL _ _ _⟩|exact ⟨rfl,_,Eq.trans (zL _ _ _) (congrArg (World.drewN _) (Nat.add_assoc _ _ _))⟩))|(go_at_call 25;(with_reducible refine (spec_AfterParts.calls kj31 t495 _ _ t496 _ _ t497 t504 t505 _ ?side1 ?side2 ?side3 ?side4 A74.out).mono ?_);(case side1=>repeat (first|exact (Kd.S_reads' HO499.out).2.2|(with_reducible refine zQ ?_ _)|(with_reducible refine zR ?_ _)|(with_reducible refine zS ?_)));(case side2=>exact (Kd.S_reads' HO499.out).2.1);(case side3=>repeat (first|exact (zM HO501.out).2.2|(with_reducible refine zQ ?_ _)|(with_reducible refine zR ?_ _)|(with_reducible refine zS ?_)));(case side4=>exact (zM HO501.out).2.1);rintro e w' ⟨rfl,⟨nd,rfl⟩⟩;(try first|exact ⟨rfl,_,zL _ _ _⟩|exact ⟨rfl,_,Eq.trans (zL _ _ _) (congrArg (World.drewN _) (Nat.add_assoc _ _ _))⟩)))
     repeat (go_quiet (first|(go_at_call 12;(with_reducible refine (spec_DrawRisingPlan.calls _ _ l1 t462 t463 t464 _ ?side1 ?side2 A61.out).mono ?_);(case side1=>repeat (first|exact (Kd.C_below HR1.out HB.out)|(with_reducible refine zQ ?_ _)|(with_reducible refine zR ?_ _)|(with_reducible refine zS ?_)));(case side2=>exact HC1.out);rintro e w76 ⟨rfl,hb⟩;have n0_:=zI (below_step (by repeat (first|(with_reducible first|exact HB.out|apply zJ|apply zG|apply zH)|exact HB.out)) hb);clear HB;have HB:=n0_;clear n0_;(try clear hb);(try clear hb2);(try clear hk);(try clear hi))|(go_at_call 13;(with_reducible refine (impl_RisingPlan.calls kj31 t462 t463 t464 t465 t466 _ A62.out).mono ?_);rintro e w77 ⟨v467,rfl,ho0,hb⟩;have n0_:=zI (Kd.R_lower ho0 (below_size (by repeat (first|(with_reducible first|exact HB.out|apply zJ|apply zG|apply zH)|exact HB.out))));have n1_:=zI (below_step (by repeat (first|(with_reducible first|exact HB.out|apply zJ|apply zG|apply zH)|exact HB.out)) hb);clear HB;have HO468:=n0_;have HB:=n1_;clear n0_ n1_;(try clear hb);(try clear hb2);(try clear hk);(try clear hi);(try clear ho0))|(go_at_call 14;(with_reducible refine (spec_RisingPlan.calls kj31 t462 t463 t464 t469 t470 _ A63.out).mono ?_);rintro e w78 ⟨v471,rfl,ho0,hb⟩;have n0_:=zI (Kd.R_elder' (by (with_reducible repeat (first|apply zN|apply zO|apply zP));exact HO468.out) (Kd.R_base ho0) hb);have n1_:=zI (Kd.R_lower (Kd.R_new' ho0 (Kd.R_lt (by (with_reducible repeat (first|apply zN|apply zO|apply zP));exact HO468.out))) (below_size (by repeat (first|(with_reducible first|exact HB.out|apply zJ|apply zG|apply zH)|exact HB.out))));have n2_:=zI (below_step (by repeat (first|(with_reducible first|exact HB.out|apply zJ|apply zG|apply zH)|exact HB.out)) hb);clear HO468;clear HB;have HO468:=n0_;have HO472:=n1_;have HB:=n2_;clear n0_ n1_ n2_;(try clear hb);(try clear hb2);(try clear hk);(try clear hi);(try clear ho0))|(go_at_call 15;(with_reducible refine (spec_DrawFirstForRising.calls _ _ l1 t473 t474 t475 _ ?side1 ?side2 A64.out).mono ?_);(case side1=>repeat (first|exact (Kd.C_below HR1.out HB.out)|(with_reducible refine zQ ?_ _)|(with_reducible refine zR ?_ _)|(with_reducible refine zS ?_)));(case side2=>exact HC1.out);rintro e w79 ⟨rfl,hb⟩;have n0_:=zI (Kd.R_below (by (with_reducible repeat (first|apply zN|apply zO|apply zP));exact HO468.out) hb);have n1_:=zI (Kd.R_below (by (with_reducible repeat (first|apply zN|apply zO|apply zP));exact HO472.out) hb);have n2_:=zI (below_step (by repeat (first|(with_reducible first|exact HB.out|apply zJ|apply zG|apply zH)|exact HB.out)) hb);clear HO468;clear HO472;clear HB;have HO468:=n0_;have HO472:=n1_;have HB:=n2_;clear n0_ n1_ n2_;(try clear hb);(try clear hb2);(try clear hk);(try clear hi))|(go_at_call 16;(with_reducible refine (impl_FirstForRising.calls kj31 t473 t474 t475 t476 t477 _ A65.out).mono ?_);rintro e w80 ⟨rfl,hb⟩;have n0_:=zI (Kd.R_below (by (with_reducible repeat (first|apply zN|apply zO|apply zP));exact HO468.out) hb);have n1_:=zI (Kd.R_below (by (with_reducible repeat (first|apply zN|apply zO|apply zP));exact HO472.out) hb);have n2_:=zI (below_step (by repeat (first|(with_reducible first|exact HB.out|apply zJ|apply zG|apply zH)|exact HB.out)) hb);clear HO468;clear HO472;clear HB;have HO468:=n0_;have HO472:=n1_;have HB:=n2_;clear n0_ n1_ n2_;(try clear hb);(try clear hb2);(try clear hk);(try clear hi))|(go_at_call 17;(with_reducible refine (spec_FirstForRising.calls kj31 t473 t474 t475 t478 t479 _ A66.out).mono ?_);rintro e w81 ⟨rfl,hb⟩;have n0_:=zI (Kd.R_below (by (with_reducible repeat (first|apply zN|apply zO|apply zP));exact HO468.out) hb);have n1_:=zI (Kd.R_below (by (with_reducible repeat (first|apply zN|apply zO|apply zP));exact HO472.out) hb);have n2_:=zI (below_step (by repeat (first|(with_reducible first|exact HB.out|apply zJ|apply zG|apply zH)|exact HB.out)) hb);clear HO468;clear HO472;clear HB;have HO468:=n0_;have HO472:=n1_;have HB:=n2_;clear n0_ n1_ n2_;(try clear hb);(try clear hb2);(try clear hk);(try clear hi))|(go_at_call 18;(with_reducible refine (spec_DrawPartPlan.calls _ _ l1 t480 t481 t482 _ ?side1 ?side2 A67.out).mono ?_);(case side1=>repeat (first|exact (Kd.C_below HR1.out HB.out)|(with_reducible refine zQ ?_ _)|(with_reducible refine zR ?_ _)|(with_reducible refine zS ?_)));(case side2=>exact HC1.out);rintro e w82 ⟨rfl,hb⟩;have n0_:=zI (Kd.R_below (by (with_reducible repeat (first|apply zN|apply zO|apply zP));exact HO468.out) hb);have n1_:=zI (Kd.R_below (by (with_reducible repeat (first|apply zN|apply zO|apply zP));exact HO472.out) hb);have n2_:=zI (below_step (by repeat (first|(with_reducible first|exact HB.out|apply zJ|apply zG|apply zH)|exact HB.out)) hb);clear HO468;clear HO472;clear HB;have HO468:=n0_;have HO472:=n1_;have HB:=n2_;clear n0_ n1_ n2_;(try clear hb);(try clear hb2);(try clear hk);(try clear hi))|(go_at_call 19;(with_reducible refine (impl_PartPlan.calls kj31 t480 t481 t482 t483 t484 _ A68.out).mono ?_);rintro e w83 ⟨v485,rfl,ho0,hb⟩;have n0_:=zI (Kd.R_elder' (by (with_reducible repeat (first|apply zN|apply zO|apply zP));exact HO468.out) (Kd.R_base ho0) hb);have n1_:=zI (Kd.R_elder' (by (with_reducible repeat (first|apply zN|apply zO|apply zP));exact HO472.out) (Kd.R_base ho0) hb);have n2_:=zI (Kd.R_lower (Kd.R_new' (Kd.R_new' ho0 (Kd.R_lt (by (with_reducible repeat (first|apply zN|apply zO|apply zP));exact HO468.out))) (Kd.R_lt (by (with_reducible repeat (first|apply zN|apply zO|apply zP));exact HO472.out))) (below_size (by repeat (first|(with_reducible first|exact HB.out|apply zJ|apply zG|apply zH)|exact HB.out))));have n3_:=zI (below_step (by repeat (first|(with_reducible first|exact HB.out|apply zJ|apply zG|apply zH)|exact HB.out)) hb);clear HO468;clear HO472;clear HB;have HO468:=n0_;have HO472:=n1_;have HO486:=n2_;have HB:=n3_;clear n0_ n1_ n2_ n3_;(try clear hb);(try clear hb2);(try clear hk);(try clear hi);(try clear ho0))|(go_at_call 20;(with_reducible refine (spec_PartPlan.calls kj31 t480 t481 t482 t487 t488 _ A69.out).mono ?_);rintro e w84 ⟨v489,rfl,ho0,hb⟩;have n0_:=zI (Kd.R_elder' (by (with_reducible repeat (first|apply zN|apply zO|apply zP));exact HO468.out) (Kd.R_base ho0) hb);have n1_:=zI (Kd.R_elder' (by (with_reducible repeat (first|apply zN|apply zO|apply zP));exact HO472.out) (Kd.R_base ho0) hb);have n2_:=zI (Kd.R_elder' (by (with_reducible repeat (first|apply zN|apply zO|apply zP));exact HO486.out) (Kd.R_base ho0) hb);have n3_:=zI (Kd.R_lower (Kd.R_new' (Kd.R_new' (Kd.R_new' ho0 (Kd.R_lt (by (with_reducible repeat (first|apply zN|apply zO|apply zP));exact HO468.out))) (Kd.R_lt (by (with_reducible repeat (first|apply zN|apply zO|apply zP));exact HO472.out))) (Kd.R_lt (by (with_reducible repeat (first|apply zN|apply zO|apply zP));exact HO486.out))) (below_size (by repeat (first|(with_reducible first|exact HB.out|apply zJ|apply zG|apply zH)|exact HB.out))));have n4_:=zI (below_step (by repeat (first|(with_reducible first|exact HB.out|apply zJ|apply zG|apply zH)|exact HB.out)) hb);clear HO468;clear HO472;clear HO486;clear HB;have HO468:=n0_;have HO472:=n1_;have HO486:=n2_;have HO490:=n3_;have HB:=n4_;clear n0_ n1_ n2_ n3_ n4_;(try clear hb);(try clear hb2);(try clear hk);(try clear hi);(try clear ho0))|(go_at_call 21;(with_reducible refine (impl_DaysOfParts.calls kj31 t480 t481 t482 t491 t492 _ A70.out).mono ?_);rintro e w85 ⟨rfl,hb⟩;have n0_:=zI (Kd.R_below (by (with_reducible repeat (first|apply zN|apply zO|apply zP));exact HO468.out) hb);have n1_:=zI (Kd.R_below (by (with_reducible repeat (first|apply zN|apply zO|apply zP));exact HO472.out) hb);have n2_:=zI (Kd.R_below (by (with_reducible repeat (first|apply zN|apply zO|apply zP));exact HO486.out) hb);have n3_:=zI (Kd.R_below (by (with_reducible repeat (first|apply zN|apply zO|apply zP));exact HO490.out) hb);have n4_:=zI (below_step (by repeat (first|(with_reducible first|exact HB.out|apply zJ|apply zG|apply zH)|exact HB.out)) hb);clear HO468;clear HO472;clear HO486;clear HO490;clear HB;have HO468:=n0_;have HO472:=n1_;have HO486:=n2_;have HO490:=n3_;have HB:=n4_;clear n0_ n1_ n2_ n3_ n4_;(try clear hb);(try clear hb2);(try clear hk);(try clear hi))|(go_at_call 22;(with_reducible refine (spec_DaysOfParts.calls kj31 t480 t481 t482 t493 t494 _ A71.out).mono ?_);rintro e w86 ⟨rfl,hb⟩;have n0_:=zI (Kd.R_below (by (with_reducible repeat (first|apply zN|apply zO|apply zP));exact HO468.out) hb);have n1_:=zI (Kd.R_below (by (with_reducible repeat (first|apply zN|apply zO|apply zP));exact HO472.out) hb);have n2_:=zI (Kd.R_below (by (with_reducible repeat (first|apply zN|apply zO|apply zP));exact HO486.out) hb);have n3_:=zI (Kd.R_below (by (with_reducible repeat (first|apply zN|apply zO|apply zP));exact HO490.out) hb);have n4_:=zI (below_step (by repeat (first|(with_reducible first|exact HB.out|apply zJ|apply zG|apply zH)|exact HB.out)) hb);clear HO468;clear HO472;clear HO486;clear HO490;clear HB;have HO468:=n0_;have HO472:=n1_;have HO486:=n2_;have HO490:=n3_;have HB:=n4_;clear n0_ n1_ n2_ n3_ n4_;(try clear hb);(try clear hb2);(try clear hk);(try clear hi))|(go_at_call 23;(with_reducible refine (spec_DrawAfterParts.calls kj31 _ _ l1 t495 t496 t497 _ ?side1 ?side2 A72.out).mono ?_);(case side1=>repeat (first|exact (Kd.C_below HR1.out HB.out)|(with_reducible refine zQ ?_ _)|(with_reducible refine zR ?_ _)|(with_reducible refine zS ?_)));(case side2=>exact HC1.out);rintro e w87 ⟨v498,v500,rfl,ho0,ho1,hb⟩;have n0_:=zI (Kd.R_elder' (by (with_reducible repeat (first|apply zN|apply zO|apply zP));exact HO468.out) (Kd.R_base ho1) hb);have n1_:=zI (Kd.R_elder' (by (with_reducible repeat (first|apply zN|apply zO|apply zP));exact HO472.out) (Kd.R_base ho1) hb);have n2_:=zI (Kd.R_elder' (by (with_reducible repeat (first|apply zN|apply zO|apply zP));exact HO486.out) (Kd.R_base ho1) hb);have n3_:=zI (Kd.R_elder' (by (with_reducible repeat (first|apply zN|apply zO|apply zP));exact HO490.out) (Kd.R_base ho1) hb);have n4_:=zI (Kd.S_lower (Kd.S_new' (Kd.S_new' (Kd.S_new' (Kd.S_new' ho0 (Kd.R_lt (by (with_reducible repeat (first|apply zN|apply zO|apply zP));exact HO468.out))) (Kd.R_lt (by (with_reducible repeat (first|apply zN|apply zO|apply zP));exact HO472.out))) (Kd.R_lt (by (with_reducible repeat (first|apply zN|apply zO|apply zP));exact HO486.out))) (Kd.R_lt (by (with_reducible repeat (first|apply zN|apply zO|apply zP));exact HO490.out))) (below_size (by repeat (first|(with_reducible first|exact HB.out|apply zJ|apply zG|apply zH)|exact HB.out))));have n5_:=zI (Kd.R_lower (Kd.R_new' (Kd.R_new' (Kd.R_new' (Kd.R_new' ho1 (Kd.R_lt (by (with_reducible repeat (first|apply zN|apply zO|apply zP));exact HO468.out))) (Kd.R_lt (by (with_reducible repeat (first|apply zN|apply zO|apply zP));exact HO472.out))) (Kd.R_lt (by (with_reducible repeat (first|apply zN|apply zO|apply zP));exact HO486.out))) (Kd.R_lt (by (with_reducible repeat (first|apply zN|apply zO|apply zP));exact HO490.out))) (below_size (by repeat (first|(with_reducible first|exact HB.out|apply zJ|apply zG|apply zH)|exact HB.out))));have n6_:=zI (below_step (by repeat (first|(with_reducible first|exact HB.out|apply zJ|apply zG|apply zH)|exact HB.out)) hb);clear HO468;clear HO472;clear HO486;clear HO490;clear HB;have HO468:=n0_;have HO472:=n1_;have HO486:=n2_;have HO490:=n3_;have HO499:=n4_;have HO501:=n5_;have HB:=n6_;clear n0_ n1_ n2_ n3_ n4_ n5_ n6_;(try clear hb);(try clear hb2);(try clear hk);(try clear hi);(try clear ho0);(try clear ho1);obtain ⟨Ao88,co88,eo88⟩:=Kd.S_slice HO499.out;subst eo88;obtain ⟨Ao89,co89,eo89⟩:=Kd.R_slice HO501.out;subst eo89)|(go_at_call 24;(with_reducible refine (impl_AfterParts.calls kj31 t495 _ _ t496 _ _ t497 t502 t503 _ ?side1 ?side2 ?side3 ?side4 A73.out).mono ?_);(case side1=>repeat (first|exact (Kd.S_reads' HO499.out).2.2|(with_reducible refine zQ ?_ _)|(with_reducible refine zR ?_ _)|(with_reducible refine zS ?_)));(case side2=>exact (Kd.S_reads' HO499.out).2.1);(case side3=>repeat (first|exact (zM HO501.out).2.2|(with_reducible refine zQ ?_ _)|(with_reducible refine zR ?_ _)|(with_reducible refine zS ?_)));(case side4=>exact (zM HO501.out).2.1);rintro e w' ⟨rfl,⟨nd,rfl⟩⟩;(try first|exact ⟨rfl,_,zL _ _ _⟩|exact ⟨rfl,_,Eq.trans (zL _ _ _) (congrArg (World.drewN _) (Nat.add_assoc _ _ _))⟩))|(go_at_call 25;(with_reducible refine (spec_AfterParts.calls kj31 t495 _ _ t496 _ _ t497 t504 t505 _ ?side1 ?side2 ?side3 ?side4 A74.out).mono ?_);(case side1=>repeat (first|exact (Kd.S_reads' HO499.out).2.2|(with_reducible refine zQ ?_ _)|(with_reducible refine zR ?_ _)|(with_reducible refine zS ?_)));(case side2=>exact (Kd.S_reads' HO499.out).2.1);(case side3=>repeat (first|exact (zM HO501.out).2.2|(with_reducible refine zQ ?_ _)|(with_reducible refine zR ?_ _)|(with_reducible refine zS ?_)));(case side4=>exact (zM HO501.out).2.1);rintro e w' ⟨rfl,⟨nd,rfl⟩⟩;(try first|exact ⟨rfl,_,zL _ _ _⟩|exact ⟨rfl,_,Eq.trans (zL _ _ _) (congrArg (World.drewN _) (Nat.add_assoc _ _ _))⟩)));go_upto_region 35 with (first|(go_at_call 12;(with_reducible refine (spec_DrawRisingPlan.calls _ _ l1 t462 t463 t464 _ ?side1 ?side2 A61.out).mono ?_);(case side1=>repeat (first|exact (Kd.C_below HR1.out HB.out)|(with_reducible refine zQ ?_ _)|(with_reducible refine zR ?_ _)|(with_reducible refine zS ?_)));(case side2=>exact HC1.out);rintro e w76 ⟨rfl,hb⟩;have n0_:=zI (below_step (by repeat (first|(with_reducible first|exact HB.out|apply zJ|apply zG|apply zH)|exact HB.out)) hb);clear HB;have HB:=n0_;clear n0_;(try clear hb);(try clear hb2);(try clear hk);(try clear hi))|(go_at_call 13;(with_reducible refine (impl_RisingPlan.calls kj31 t462 t463 t464 t465 t466 _ A62.out).mono ?_);rintro e w77 ⟨v467,rfl,ho0,hb⟩;have n0_:=zI (Kd.R_lower ho0 (below_size (by repeat (first|(with_reducible first|exact HB.out|apply zJ|apply zG|apply zH)|exact HB.out))));have n1_:=zI (below_step (by repeat (first|(with_reducible first|exact HB.out|apply zJ|apply zG|apply zH)|exact HB.out)) hb);clear HB;have HO468:=n0_;have HB:=n1_;clear n0_ n1_;(try clear hb);(try clear hb2);(try clear hk);(try clear hi);(try clear ho0))|(go_at_call 14;(with_reducible refine (spec_RisingPlan.calls kj31 t462 t463 t464 t469 t470 _ A63.out).mono ?_);rintro e w78 ⟨v471,rfl,ho0,hb⟩;have n0_:=zI (Kd.R_elder' (by (with_reducible repeat (first|apply zN|apply zO|apply zP));exact HO468.out) (Kd.R_base ho0) hb);have n1_:=zI (Kd.R_lower (Kd.R_new' ho0 (Kd.R_lt (by (with_reducible repeat (first|apply zN|apply zO|apply zP));exact HO468.out))) (below_size (by repeat (first|(with_reducible first|exact HB.out|apply zJ|apply zG|apply zH)|exact HB.out))));have n2_:=zI (below_step (by repeat (first|(with_reducible first|exact HB.out|apply zJ|apply zG|apply zH)|exact HB.out)) hb);clear HO468;clear HB;have HO468:=n0_;have HO472:=n1_;have HB:=n2_;clear n0_ n1_ n2_;(try clear hb);(try clear hb2);(try clear hk);(try clear hi);(try clear ho0))|(go_at_call 15;(with_reducible refine (spec_DrawFirstForRising.calls _ _ l1 t473 t474 t475 _ ?side1 ?side2 A64.out).mono ?_);(case side1=>repeat (first|exact (Kd.C_below HR1.out HB.out)|(with_reducible refine zQ ?_ _)|(with_reducible refine zR ?_ _)|(with_reducible refine zS ?_)));(case side2=>exact HC1.out);rintro e w79 ⟨rfl,hb⟩;have n0_:=zI (Kd.R_below (by (with_reducible repeat (first|apply zN|apply zO|apply zP));exact HO468.out) hb);have n1_:=zI (Kd.R_below (by (with_reducible repeat (first|apply zN|apply zO|apply zP));exact HO472.out) hb);have n2_:=zI (below_step (by repeat (first|(with_reducible first|exact HB.out|apply zJ|apply zG|apply zH)|exact HB.out)) hb);clear HO468;clear HO472;clear HB;have HO468:=n0_;have HO472:=n1_;have HB:=n2_;clear n0_ n1_ n2_;(try clear hb);(try clear hb2);(try clear hk);(try clear hi))|(go_at_call 16;(with_reducible refine (impl_FirstForRising.calls kj31 t473 t474 t475 t476 t477 _ A65.out).mono ?_);rintro e w80 ⟨rfl,hb⟩;have n0_:=zI (Kd.R_below (by (with_reducible repeat (first|apply zN|apply zO|apply zP));exact HO468.out) hb);have n1_:=zI (Kd.R_below (by (with_reducible repeat (first|apply zN|apply zO|apply zP));exact HO472.out) hb);have n2_:=zI (below_step (by repeat (first|(with_reducible first|exact HB.out|apply zJ|apply zG|apply zH)|exact HB.out)) hb);clear HO468;clear HO472;clear HB;have HO468:=n0_;have HO472:=n1_;have HB:=n2_;clear n0_ n1_ n2_;(try clear hb);(try clear hb2);(try clear hk);(try clear hi))|(go_at_call 17;(with_reducible refine (spec_FirstForRising.calls kj31 t473 t474 t475 t478 t479 _ A66.out).mono ?_);rintro e w81 ⟨rfl,hb⟩;have n0_:=zI (Kd.R_below (by (with_reducible repeat (first|apply zN|apply zO|apply zP));exact HO468.out) hb);have n1_:=zI (Kd.R_below (by (with_reducible repeat (first|apply zN|apply zO|apply zP));exact HO472.out) hb);have n2_:=zI (below_step (by repeat (first|(with_reducible first|exact HB.out|apply zJ|apply zG|apply zH)|exact HB.out)) hb);clear HO468;clear HO472;clear HB;have HO468:=n0_;have HO472:=n1_;have HB:=n2_;clear n0_ n1_ n2_;(try clear hb);(try clear hb2);(try clear hk);(try clear hi))|(go_at_call 18;(with_reducible refine (spec_DrawPartPlan.calls _ _ l1 t480 t481 t482 _ ?side1 ?side2 A67.out).mono ?_);(case side1=>repeat (first|exact (Kd.C_below HR1.out HB.out)|(with_reducible refine zQ ?_ _)|(with_reducible refine zR ?_ _)|(with_reducible refine zS ?_)));(case side2=>exact HC1.out);rintro e w82 ⟨rfl,hb⟩;have n0_:=zI (Kd.R_below (by (with_reducible repeat (first|apply zN|apply zO|apply zP));exact HO468.out) hb);have n1_:=zI (Kd.R_below (by (with_reducible repeat (first|apply zN|apply zO|apply zP));exact HO472.out) hb);have n2_:=zI (below_step (by repeat (first|(with_reducible first|exact HB.out|apply zJ|apply zG|apply zH)|exact HB.out)) hb);clear HO468;clear HO472;clear HB;have HO468:=n0_;have HO472:=n1_;have HB:=n2_;clear n0_ n1_ n2_;(try clear hb);(try clear hb2);(try clear hk);(try clear hi))|(go_at_call 19;(with_reducible refine (impl_PartPlan.calls kj31 t480 t481 t482 t483 t484 _ A68.out).mono ?_);rintro e w83 ⟨v485,rfl,ho0,hb⟩;have n0_:=zI (Kd.R_elder' (by (with_reducible repeat (first|apply zN|apply zO|apply zP));exact HO468.out) (Kd.R_base ho0) hb);have n1_:=zI (Kd.R_elder' (by (with_reducible repeat (first|apply zN|apply zO|apply zP));exact HO472.out) (Kd.R_base ho0) hb);have n2_:=zI (Kd.R_lower (Kd.R_new' (Kd.R_new' ho0 (Kd.R_lt (by (with_reducible repeat (first|apply zN|apply zO|apply zP));exact HO468.out))) (Kd.R_lt (by (with_reducible repeat (first|apply zN|apply zO|apply zP));exact HO472.out))) (below_size (by repeat (first|(with_reducible first|exact HB.out|apply zJ|apply zG|apply zH)|exact HB.out))));have n3_:=zI (below_step (by repeat (first|(with_reducible first|exact HB.out|apply zJ|apply zG|apply zH)|exact HB.out)) hb);clear HO468;clear HO472;clear HB;have HO468:=n0_;have HO472:=n1_;have HO486:=n2_;have HB:=n3_;clear n0_ n1_ n2_ n3_;(try clear hb);(try clear hb2);(try clear hk);(try clear hi);(try clear ho0))|(go_at_call 20;(with_reducible refine (spec_PartPlan.calls kj31 t480 t481 t482 t487 t488 _ A69.out).mono ?_);rintro e w84 ⟨v489,rfl,ho0,hb⟩;have n0_:=zI (Kd.R_elder' (by (with_reducible repeat (first|apply zN|apply zO|apply zP));exact HO468.out) (Kd.R_base ho0) hb);have n1_:=zI (Kd.R_elder' (by (with_reducible repeat (first|apply zN|apply zO|apply zP));exact HO472.out) (Kd.R_base ho0) hb);have n2_:=zI (Kd.R_elder' (by (with_reducible repeat (first|apply zN|apply zO|apply zP));exact HO486.out) (Kd.R_base ho0) hb);have n3_:=zI (Kd.R_lower (Kd.R_new' (Kd.R_new' (Kd.R_new' ho0 (Kd.R_lt (by (with_reducible repeat (first|apply zN|apply zO|apply zP));exact HO468.out))) (Kd.R_lt (by (with_reducible repeat (first|apply zN|apply zO|apply zP));exact HO472.out))) (Kd.R_lt (by (with_reducible repeat (first|apply zN|apply zO|apply zP));exact HO486.out))) (below_size (by repeat (first|(with_reducible first|exact HB.out|apply zJ|apply zG|apply zH)|exact HB.out))));have n4_:=zI (below_step (by repeat (first|(with_reducible first|exact HB.out|apply zJ|apply zG|apply zH)|exact HB.out)) hb);clear HO468;clear HO472;clear HO486;clear HB;have HO468:=n0_;have HO472:=n1_;have HO486:=n2_;have HO490:=n3_;have HB:=n4_;clear n0_ n1_ n2_ n3_ n4_;(try clear hb);(try clear hb2);(try clear hk);(try clear hi);(try clear ho0))|(go_at_call 21;(with_reducible refine (impl_DaysOfParts.calls kj31 t480 t481 t482 t491 t492 _ A70.out).mono ?_);rintro e w85 ⟨rfl,hb⟩;have n0_:=zI (Kd.R_below (by (with_reducible repeat (first|apply zN|apply zO|apply zP));exact HO468.out) hb);have n1_:=zI (Kd.R_below (by (with_reducible repeat (first|apply zN|apply zO|apply zP));exact HO472.out) hb);have n2_:=zI (Kd.R_below (by (with_reducible repeat (first|apply zN|apply zO|apply zP));exact HO486.out) hb);have n3_:=zI (Kd.R_below (by (with_reducible repeat (first|apply zN|apply zO|apply zP));exact HO490.out) hb);have n4_:=zI (below_step (by repeat (first|(with_reducible first|exact HB.out|apply zJ|apply zG|apply zH)|exact HB.out)) hb);clear HO468;clear HO472;clear HO486;clear HO490;clear HB;have HO468:=n0_;have HO472:=n1_;have HO486:=n2_;have HO490:=n3_;have HB:=n4_;clear n0_ n1_ n2_ n3_ n4_;(try clear hb);(try clear hb2);(try clear hk);(try clear hi))|(go_at_call 22;(with_reducible refine (spec_DaysOfParts.calls kj31 t480 t481 t482 t493 t494 _ A71.out).mono ?_);rintro e w86 ⟨rfl,hb⟩;have n0_:=zI (Kd.R_below (by (with_reducible repeat (first|apply zN|apply zO|apply zP));exact HO468.out) hb);have n1_:=zI (Kd.R_below (by (with_reducible repeat (first|apply zN|apply zO|apply zP));exact HO472.out) hb);have n2_:=zI (Kd.R_below (by (with_reducible repeat (first|apply zN|apply zO|apply zP));exact HO486.out) hb);have n3_:=zI (Kd.R_below (by (with_reducible repeat (first|apply zN|apply zO|apply zP));exact HO490.out) hb);have n4_:=zI (below_step (by repeat (first|(with_reducible first|exact HB.out|apply zJ|apply zG|apply zH)|exact HB.out)) hb);clear HO468;clear HO472;clear HO486;clear HO490;clear HB;have HO468:=n0_;have HO472:=n1_;have HO486:=n2_;have HO490:=n3_;have HB:=n4_;clear n0_ n1_ n2_ n3_ n4_;(try clear hb);(try clear hb2);(try clear hk);(try clear hi))|(go_at_call 23;(with_reducible refine (spec_DrawAfterParts.calls kj31 _ _ l1 t495 t496 t497 _ ?side1 ?side2 A72.out).mono ?_);(case side1=>repeat (first|exact (Kd.C_below HR1.out HB.out)|(with_reducible refine zQ ?_ _)|(with_reducible refine zR ?_ _)|(with_reducible refine zS ?_)));(case side2=>exact HC1.out);rintro e w87 ⟨v498,v500,rfl,ho0,ho1,hb⟩;have n0_:=zI (Kd.R_elder' (by (with_reducible repeat (first|apply zN|apply zO|apply zP));exact HO468.out) (Kd.R_base ho1) hb);have n1_:=zI (Kd.R_elder' (by (with_reducible repeat (first|apply zN|apply zO|apply zP));exact HO472.out) (Kd.R_base ho1) hb);have n2_:=zI (Kd.R_elder' (by (with_reducible repeat (first|apply zN|apply zO|apply zP));exact HO486.out) (Kd.R_base ho1) hb);have n3_:=zI (Kd.R_elder' (by (with_reducible repeat (first|apply zN|apply zO|apply zP));exact HO490.out) (Kd.R_base ho1) hb);have n4_:=zI (Kd.S_lower (Kd.S_new' (Kd.S_new' (Kd.S_new' (Kd.S_new' ho0 (Kd.R_lt (by (with_reducible repeat (first|apply zN|apply zO|apply zP));exact HO468.out))) (Kd.R_lt (by (with_reducible repeat (first|apply zN|apply zO|apply zP));exact HO472.out))) (Kd.R_lt (by (with_reducible repeat (first|apply zN|apply zO|apply zP));exact HO486.out))) (Kd.R_lt (by (with_reducible repeat (first|apply zN|apply zO|apply zP));exact HO490.out))) (below_size (by repeat (first|(with_reducible first|exact HB.out|apply zJ|apply zG|apply zH)|exact HB.out))));have n5_:=zI (Kd.R_lower (Kd.R_new' (Kd.R_new' (Kd.R_new' (Kd.R_new' ho1 (Kd.R_lt (by (with_reducible repeat (first|apply zN|apply zO|apply zP));exact HO468.out))) (Kd.R_lt (by (with_reducible repeat (first|apply zN|apply zO|apply zP));exact HO472.out))) (Kd.R_lt (by (with_reducible repeat (first|apply zN|apply zO|apply zP));exact HO486.out))) (Kd.R_lt (by (with_reducible repeat (first|apply zN|apply zO|apply zP));exact HO490.out))) (below_size (by repeat (first|(with_reducible first|exact HB.out|apply zJ|apply zG|apply zH)|exact HB.out))));have n6_:=zI (below_step (by repeat (first|(with_reducible first|exact HB.out|apply zJ|apply zG|apply zH)|exact HB.out)) hb);clear HO468;clear HO472;clear HO486;clear HO490;clear HB;have HO468:=n0_;have HO472:=n1_;have HO486:=n2_;have HO490:=n3_;have HO499:=n4_;have HO501:=n5_;have HB:=n6_;clear n0_ n1_ n2_ n3_ n4_ n5_ n6_;(try clear hb);(try clear hb2);(try clear hk);(try clear hi);(try clear ho0);(try clear ho1);obtain ⟨Ao88,co88,eo88⟩:=Kd.S_slice HO499.out;subst eo88;obtain ⟨Ao89,co89,eo89⟩:=Kd.R_slice HO501.out;subst eo89)|(go_at_call 24;(with_reducible refine (impl_AfterParts.calls kj31 t495 _ _ t496 _ _ t497 t502 t503 _ ?side1 ?side2 ?side3 ?side4 A73.out).mono ?_);(case side1=>repeat (first|exact (Kd.S_reads' HO499.out).2.2|(with_reducible refine zQ ?_ _)|(with_reducible refine zR ?_ _)|(with_reducible refine zS ?_)));(case side2=>exact (Kd.S_reads' HO499.out).2.1);(case side3=>repeat (first|exact (zM HO501.out).2.2|(with_reducible refine zQ ?_ _)|(with_reducible refine zR ?_ _)|(with_reducible refine zS ?_)));(case side4=>exact (zM HO501.out).2.1);rintro e w' ⟨rfl,⟨nd,rfl⟩⟩;(try first|exact ⟨rfl,_,zL _ _ _⟩|exact ⟨rfl,_,Eq.trans (zL _ _ _) (congrArg (World.drewN _) (Nat.add_assoc _ _ _))⟩))|(go_at_call 25;(with_reducible refine (spec_AfterParts.calls kj31 t495 _ _ t496 _ _ t497 t504 t505 _ ?side1 ?side2 ?side3 ?side4 A74.out).mono ?_);(case side1=>repeat (first|exact (Kd.S_reads' HO499.out).2.2|(with_reducible refine zQ ?_ _)|(with_reducible refine zR ?_ _)|(with_reducible refine zS ?_)));(case side2=>exact (Kd.S_reads' HO499.out).2.1);(case side3=>repeat (first|exact (zM HO501.out).2.2|(with_reducible refine zQ ?_ _)|(with_reducible refine zR ?_ _)|(with_reducible refine zS ?_)));(case side4=>exact (zM HO501.out).2.1);rintro e w' ⟨rfl,⟨nd,rfl⟩⟩;(try first|exact ⟨rfl,_,zL _ _ _⟩|exact ⟨rfl,_,Eq.trans (zL _ _ _) (congrArg (World.drewN _) (Nat.add_assoc _ _ _))⟩))))
     (try simp only [Act.put,zA,zB,zC])
     go_cut [359] from 138 to 359 (fun v359 wc=>∃ (kq : Nat) (x359_74 : Bool),v359 = .bool x359_74 ∧ Aside0 (laws_FnReadersPlan.j4 kq t462 t463 t464 t465 t466 t473 t474 t475 t476 t477 t480 t481 t482 t483 t484 t491 t495 t496 t497 t502 t503 x359_74 = some r) ∧ Aside0 (kq ≤ kj31) ∧ Aside0 (Kd.R (Kd.int .i64) 3 wc w.heap.size (fun k_=>some k_ ≠ (v485 : Value).ownBlock ∧ some k_ ≠ ((.slice Ao89 t497.length co89) : Value).ownBlock) v467 t465) ∧ Aside0 (Kd.R (Kd.int .i64) 3 wc w.heap.size (fun k_=>some k_ ≠ (v467 : Value).ownBlock ∧ some k_ ≠ ((.slice Ao89 t497.length co89) : Value).ownBlock) v485 t483) ∧ Aside0 (Kd.S (Kd.slice 3 (Kd.int .i64)) 26 wc w.heap.size (fun k_=>some k_ ≠ (v467 : Value).ownBlock ∧ some k_ ≠ (v485 : Value).ownBlock ∧ some k_ ≠ ((.slice Ao89 t497.length co89) : Value).ownBlock) (.slice Ao88 t496.length co88) t496) ∧ Aside0 (Kd.R (Kd.int .i64) 3 wc w.heap.size (fun k_=>some k_ ≠ (v467 : Value).ownBlock ∧ some k_ ≠ (v485 : Value).ownBlock) (.slice Ao89 t497.length co89) t497) ∧ Aside0 (Below w.heap.size w wc))
     case first => as_aux_lemma =>
      have H:=HC75.out;clear HC75
      by_cases c90 : (t466 != t470) = true
      · as_aux_lemma =>
        rw [if_pos c90] at H
        have c90b0 : (t466 != t470) = true:=c90
        (try (have c90b1 : decide (t466 = t470) = false:=by simpa using c90));(try (have c90b2 : (t466 == t470) = false:=by simpa using c90));(try (have c90b3 : ¬ (t466 = t470):=by simpa using c90));clear c90
        (first|rw [c90b0]|(simp only [i64_w,i32_w];rw [c90b0])|skip)
        (try rw [c90b2]);have H':=zI H;clear H
        go_wp2
        repeat (go_quiet (fail);try go_wp2)
        go_meet
        case rel=>exact ⟨_,(true),(by first|rfl|(simp;done)|(simp [*];done)),H',⟨by have:=HJ9.out;have:=HJ31.out;first|omega|exact Nat.le_refl _⟩,⟨by (with_reducible repeat (first|apply zN|apply zO|apply zP));exact Kd.R_mono HO468.out (fun _ hk=>⟨hk.1.1.2,hk.2⟩)⟩,⟨by (with_reducible repeat (first|apply zN|apply zO|apply zP));exact Kd.R_mono HO486.out (fun _ hk=>⟨hk.1.1.1.2,hk.2⟩)⟩,⟨by (with_reducible repeat (first|apply Kd.S_alloc|apply Kd.S_drewN|apply Kd.S_drew));exact Kd.S_mono HO499.out (fun _ hk=>⟨hk.1.1.1.2,⟨hk.1.2,hk.1.1.1.1⟩⟩)⟩,⟨by (with_reducible repeat (first|apply zN|apply zO|apply zP));exact Kd.R_mono HO501.out (fun _ hk=>⟨hk.1.1.1.2,hk.1.2⟩)⟩,⟨by repeat (first|(with_reducible first|exact HB.out|apply zJ|apply zG|apply zH)|exact HB.out)⟩⟩
      rw [if_neg c90] at H
      have c90b0 : (t466 != t470) = false:=by simpa using c90
      (try (have c90b1 : decide (t466 = t470) = true:=by simpa using c90));(try (have c90b2 : (t466 == t470) = true:=by simpa using c90));clear c90
      (first|rw [c90b0]|(simp only [i64_w,i32_w];rw [c90b0])|skip)
      (try rw [c90b2]);replace H:=Option.bind_eq_some_iff.mp H
      obtain ⟨t506,A910,H⟩:=H
      (try dsimp only at H);have A91:=zI A910;clear A910
      by_cases c92 : t506 = true
      rotate_left
      · as_aux_lemma =>
        replace c92:=Bool.eq_false_iff.mpr c92
        subst c92
        have H1 : (laws_FnReadersPlan.j4 kj31 t462 t463 t464 t465 t466 t473 t474 t475 t476 t477 t480 t481 t482 t483 t484 t491 t495 t496 t497 t502 t503 true) = some r:=by rw [if_neg (show ¬ (false = true) by decide)] at H;exact H
        clear H;have H:=H1;clear H1;have H':=zI H;clear H
        obtain ⟨Ao132,co132,eo132⟩:=Kd.R_slice HO468.out
        subst eo132
        obtain ⟨Ao133,co133,eo133⟩:=Kd.R_slice HO472.out
        subst eo133
        go_wp2_with (first|(go_at_call 10;(with_reducible refine (laws_xSame.calls kj31 _ _ t465 _ _ t469 false _ ?side1 ?side2 ?side3 ?side4 A91.out).mono ?_);(case side1=>repeat (first|exact (zM HO468.out).2.2|(with_reducible refine zQ ?_ _)|(with_reducible refine zR ?_ _)|(with_reducible refine zS ?_)));(case side2=>exact (zM HO468.out).2.1);(case side3=>repeat (first|exact (zM HO472.out).2.2|(with_reducible refine zQ ?_ _)|(with_reducible refine zR ?_ _)|(with_reducible refine zS ?_)));(case side4=>exact (zM HO472.out).2.1);rintro e w' ⟨rfl,⟨nd,rfl⟩⟩;(try first|exact ⟨rfl,_,zL _ _ _⟩|exact ⟨rfl,_,Eq.trans (zL _ _ _) (congrArg (World.drewN _) (Nat.add_assoc _ _ _))⟩)))
        repeat (go_quiet (first|(go_at_call 10;(with_reducible refine (laws_xSame.calls kj31 _ _ t465 _ _ t469 false _ ?side1 ?side2 ?side3 ?side4 A91.out).mono ?_);(case side1=>repeat (first|exact (zM HO468.out).2.2|(with_reducible refine zQ ?_ _)|(with_reducible refine zR ?_ _)|(with_reducible refine zS ?_)));(case side2=>exact (zM HO468.out).2.1);(case side3=>repeat (first|exact (zM HO472.out).2.2|(with_reducible refine zQ ?_ _)|(with_reducible refine zR ?_ _)|(with_reducible refine zS ?_)));(case side4=>exact (zM HO472.out).2.1);rintro e w' ⟨rfl,⟨nd,rfl⟩⟩;(try first|exact ⟨rfl,_,zL _ _ _⟩|exact ⟨rfl,_,Eq.trans (zL _ _ _) (congrArg (World.drewN _) (Nat.add_assoc _ _ _))⟩)));try go_wp2_with (first|(go_at_call 10;(with_reducible refine (laws_xSame.calls kj31 _ _ t465 _ _ t469 false _ ?side1 ?side2 ?side3 ?side4 A91.out).mono ?_);(case side1=>repeat (first|exact (zM HO468.out).2.2|(with_reducible refine zQ ?_ _)|(with_reducible refine zR ?_ _)|(with_reducible refine zS ?_)));(case side2=>exact (zM HO468.out).2.1);(case side3=>repeat (first|exact (zM HO472.out).2.2|(with_reducible refine zQ ?_ _)|(with_reducible refine zR ?_ _)|(with_reducible refine zS ?_)));(case side4=>exact (zM HO472.out).2.1);rintro e w' ⟨rfl,⟨nd,rfl⟩⟩;(try first|exact ⟨rfl,_,zL _ _ _⟩|exact ⟨rfl,_,Eq.trans (zL _ _ _) (congrArg (World.drewN _) (Nat.add_assoc _ _ _))⟩))))
        go_meet
        case rel=>exact ⟨_,(true),(by first|rfl|(simp;done)|(simp [*];done)),H',⟨by have:=HJ9.out;have:=HJ31.out;first|omega|exact Nat.le_refl _⟩,⟨by (with_reducible repeat (first|apply zN|apply zO|apply zP));exact Kd.R_mono HO468.out (fun _ hk=>⟨hk.1.1.2,hk.2⟩)⟩,⟨by (with_reducible repeat (first|apply zN|apply zO|apply zP));exact Kd.R_mono HO486.out (fun _ hk=>⟨hk.1.1.1.2,hk.2⟩)⟩,⟨by (with_reducible repeat (first|apply Kd.S_alloc|apply Kd.S_drewN|apply Kd.S_drew));exact Kd.S_mono HO499.out (fun _ hk=>⟨hk.1.1.1.2,⟨hk.1.2,hk.1.1.1.1⟩⟩)⟩,⟨by (with_reducible repeat (first|apply zN|apply zO|apply zP));exact Kd.R_mono HO501.out (fun _ hk=>⟨hk.1.1.1.2,hk.1.2⟩)⟩,⟨by repeat (first|(with_reducible first|exact HB.out|apply zJ|apply zG|apply zH)|exact HB.out)⟩⟩
      subst c92
      have H1 : (if (t477 != t479) = true then (laws_FnReadersPlan.j4 kj31 t462 t463 t464 t465 t466 t473 t474 t475 t476 t477 t480 t481 t482 t483 t484 t491 t495 t496 t497 t502 t503 true) else (if t476 = t478 then (if (t484 != t488) = true then (laws_FnReadersPlan.j4 kj31 t462 t463 t464 t465 t466 t473 t474 t475 t476 t477 t480 t481 t482 t483 t484 t491 t495 t496 t497 t502 t503 true) else ((laws_xSame.f kj31 t483 t487).bind fun t507=>(if t507 = true then (if (t492 != t494) = true then (laws_FnReadersPlan.j4 kj31 t462 t463 t464 t465 t466 t473 t474 t475 t476 t477 t480 t481 t482 t483 t484 t491 t495 t496 t497 t502 t503 true) else (if t491 = t493 then (if (t503 != t505) = true then (laws_FnReadersPlan.j4 kj31 t462 t463 t464 t465 t466 t473 t474 t475 t476 t477 t480 t481 t482 t483 t484 t491 t495 t496 t497 t502 t503 true) else (if t502 = t504 then (laws_FnReadersPlan.j4 kj31 t462 t463 t464 t465 t466 t473 t474 t475 t476 t477 t480 t481 t482 t483 t484 t491 t495 t496 t497 t502 t503 (t492 != t484)) else (laws_FnReadersPlan.j4 kj31 t462 t463 t464 t465 t466 t473 t474 t475 t476 t477 t480 t481 t482 t483 t484 t491 t495 t496 t497 t502 t503 true))) else (laws_FnReadersPlan.j4 kj31 t462 t463 t464 t465 t466 t473 t474 t475 t476 t477 t480 t481 t482 t483 t484 t491 t495 t496 t497 t502 t503 true))) else (laws_FnReadersPlan.j4 kj31 t462 t463 t464 t465 t466 t473 t474 t475 t476 t477 t480 t481 t482 t483 t484 t491 t495 t496 t497 t502 t503 true)))) else (laws_FnReadersPlan.j4 kj31 t462 t463 t464 t465 t466 t473 t474 t475 t476 t477 t480 t481 t482 t483 t484 t491 t495 t496 t497 t502 t503 true))) = some r:=by rw [if_pos rfl] at H;exact H
      clear H;have H:=H1;clear H1
      by_cases c93 : (t477 != t479) = true
      · as_aux_lemma =>
        rw [if_pos c93] at H
        have c93b0 : (t477 != t479) = true:=c93
        (try (have c93b1 : decide (t477 = t479) = false:=by simpa using c93));(try (have c93b2 : (t477 == t479) = false:=by simpa using c93));(try (have c93b3 : ¬ (t477 = t479):=by simpa using c93));clear c93;have H':=zI H;clear H
        obtain ⟨Ao94,co94,eo94⟩:=Kd.R_slice HO468.out
        subst eo94
        obtain ⟨Ao95,co95,eo95⟩:=Kd.R_slice HO472.out
        subst eo95
        go_wp2_with (first|(go_at_call 10;(with_reducible refine (laws_xSame.calls kj31 _ _ t465 _ _ t469 true _ ?side1 ?side2 ?side3 ?side4 A91.out).mono ?_);(case side1=>repeat (first|exact (zM HO468.out).2.2|(with_reducible refine zQ ?_ _)|(with_reducible refine zR ?_ _)|(with_reducible refine zS ?_)));(case side2=>exact (zM HO468.out).2.1);(case side3=>repeat (first|exact (zM HO472.out).2.2|(with_reducible refine zQ ?_ _)|(with_reducible refine zR ?_ _)|(with_reducible refine zS ?_)));(case side4=>exact (zM HO472.out).2.1);rintro e w' ⟨rfl,⟨nd,rfl⟩⟩;(try first|exact ⟨rfl,_,zL _ _ _⟩|exact ⟨rfl,_,Eq.trans (zL _ _ _) (congrArg (World.drewN _) (Nat.add_assoc _ _ _))⟩)))
        repeat (go_quiet (first|(go_at_call 10;(with_reducible refine (laws_xSame.calls kj31 _ _ t465 _ _ t469 true _ ?side1 ?side2 ?side3 ?side4 A91.out).mono ?_);(case side1=>repeat (first|exact (zM HO468.out).2.2|(with_reducible refine zQ ?_ _)|(with_reducible refine zR ?_ _)|(with_reducible refine zS ?_)));(case side2=>exact (zM HO468.out).2.1);(case side3=>repeat (first|exact (zM HO472.out).2.2|(with_reducible refine zQ ?_ _)|(with_reducible refine zR ?_ _)|(with_reducible refine zS ?_)));(case side4=>exact (zM HO472.out).2.1);rintro e w' ⟨rfl,⟨nd,rfl⟩⟩;(try first|exact ⟨rfl,_,zL _ _ _⟩|exact ⟨rfl,_,Eq.trans (zL _ _ _) (congrArg (World.drewN _) (Nat.add_assoc _ _ _))⟩)));try go_wp2_with (first|(go_at_call 10;(with_reducible refine (laws_xSame.calls kj31 _ _ t465 _ _ t469 true _ ?side1 ?side2 ?side3 ?side4 A91.out).mono ?_);(case side1=>repeat (first|exact (zM HO468.out).2.2|(with_reducible refine zQ ?_ _)|(with_reducible refine zR ?_ _)|(with_reducible refine zS ?_)));(case side2=>exact (zM HO468.out).2.1);(case side3=>repeat (first|exact (zM HO472.out).2.2|(with_reducible refine zQ ?_ _)|(with_reducible refine zR ?_ _)|(with_reducible refine zS ?_)));(case side4=>exact (zM HO472.out).2.1);rintro e w' ⟨rfl,⟨nd,rfl⟩⟩;(try first|exact ⟨rfl,_,zL _ _ _⟩|exact ⟨rfl,_,Eq.trans (zL _ _ _) (congrArg (World.drewN _) (Nat.add_assoc _ _ _))⟩))))
        go_meet
        case rel=>exact ⟨_,(true),(by first|rfl|(simp;done)|(simp [*];done)),H',⟨by have:=HJ9.out;have:=HJ31.out;first|omega|exact Nat.le_refl _⟩,⟨by (with_reducible repeat (first|apply zN|apply zO|apply zP));exact Kd.R_mono HO468.out (fun _ hk=>⟨hk.1.1.2,hk.2⟩)⟩,⟨by (with_reducible repeat (first|apply zN|apply zO|apply zP));exact Kd.R_mono HO486.out (fun _ hk=>⟨hk.1.1.1.2,hk.2⟩)⟩,⟨by (with_reducible repeat (first|apply Kd.S_alloc|apply Kd.S_drewN|apply Kd.S_drew));exact Kd.S_mono HO499.out (fun _ hk=>⟨hk.1.1.1.2,⟨hk.1.2,hk.1.1.1.1⟩⟩)⟩,⟨by (with_reducible repeat (first|apply zN|apply zO|apply zP));exact Kd.R_mono HO501.out (fun _ hk=>⟨hk.1.1.1.2,hk.1.2⟩)⟩,⟨by repeat (first|(with_reducible first|exact HB.out|apply zJ|apply zG|apply zH)|exact HB.out)⟩⟩
      rw [if_neg c93] at H
      have c93b0 : (t477 != t479) = false:=by simpa using c93
      (try (have c93b1 : decide (t477 = t479) = true:=by simpa using c93));(try (have c93b2 : (t477 == t479) = true:=by simpa using c93));clear c93
      by_cases c96 : t476 = t478
      rotate_left
      · as_aux_lemma =>
        rw [if_neg c96] at H
        have c96b0 : (t476 == t478) = false:=beq_eq_false_iff_ne.mpr c96
        have c96b1 : (t476 != t478) = true:=bne_iff_ne.mpr c96
        have H':=zI H;clear H
        obtain ⟨Ao130,co130,eo130⟩:=Kd.R_slice HO468.out
        subst eo130
        obtain ⟨Ao131,co131,eo131⟩:=Kd.R_slice HO472.out
        subst eo131
        go_wp2_with (first|(go_at_call 10;(with_reducible refine (laws_xSame.calls kj31 _ _ t465 _ _ t469 true _ ?side1 ?side2 ?side3 ?side4 A91.out).mono ?_);(case side1=>repeat (first|exact (zM HO468.out).2.2|(with_reducible refine zQ ?_ _)|(with_reducible refine zR ?_ _)|(with_reducible refine zS ?_)));(case side2=>exact (zM HO468.out).2.1);(case side3=>repeat (first|exact (zM HO472.out).2.2|(with_reducible refine zQ ?_ _)|(with_reducible refine zR ?_ _)|(with_reducible refine zS ?_)));(case side4=>exact (zM HO472.out).2.1);rintro e w' ⟨rfl,⟨nd,rfl⟩⟩;(try first|exact ⟨rfl,_,zL _ _ _⟩|exact ⟨rfl,_,Eq.trans (zL _ _ _) (congrArg (World.drewN _) (Nat.add_assoc _ _ _))⟩)))
        repeat (go_quiet (first|(go_at_call 10;(with_reducible refine (laws_xSame.calls kj31 _ _ t465 _ _ t469 true _ ?side1 ?side2 ?side3 ?side4 A91.out).mono ?_);(case side1=>repeat (first|exact (zM HO468.out).2.2|(with_reducible refine zQ ?_ _)|(with_reducible refine zR ?_ _)|(with_reducible refine zS ?_)));(case side2=>exact (zM HO468.out).2.1);(case side3=>repeat (first|exact (zM HO472.out).2.2|(with_reducible refine zQ ?_ _)|(with_reducible refine zR ?_ _)|(with_reducible refine zS ?_)));(case side4=>exact (zM HO472.out).2.1);rintro e w' ⟨rfl,⟨nd,rfl⟩⟩;(try first|exact ⟨rfl,_,zL _ _ _⟩|exact ⟨rfl,_,Eq.trans (zL _ _ _) (congrArg (World.drewN _) (Nat.add_assoc _ _ _))⟩)));try go_wp2_with (first|(go_at_call 10;(with_reducible refine (laws_xSame.calls kj31 _ _ t465 _ _ t469 true _ ?side1 ?side2 ?side3 ?side4 A91.out).mono ?_);(case side1=>repeat (first|exact (zM HO468.out).2.2|(with_reducible refine zQ ?_ _)|(with_reducible refine zR ?_ _)|(with_reducible refine zS ?_)));(case side2=>exact (zM HO468.out).2.1);(case side3=>repeat (first|exact (zM HO472.out).2.2|(with_reducible refine zQ ?_ _)|(with_reducible refine zR ?_ _)|(with_reducible refine zS ?_)));(case side4=>exact (zM HO472.out).2.1);rintro e w' ⟨rfl,⟨nd,rfl⟩⟩;(try first|exact ⟨rfl,_,zL _ _ _⟩|exact ⟨rfl,_,Eq.trans (zL _ _ _) (congrArg (World.drewN _) (Nat.add_assoc _ _ _))⟩))))
        go_meet
        case rel=>exact ⟨_,(true),(by first|rfl|(simp;done)|(simp [*];done)),H',⟨by have:=HJ9.out;have:=HJ31.out;first|omega|exact Nat.le_refl _⟩,⟨by (with_reducible repeat (first|apply zN|apply zO|apply zP));exact Kd.R_mono HO468.out (fun _ hk=>⟨hk.1.1.2,hk.2⟩)⟩,⟨by (with_reducible repeat (first|apply zN|apply zO|apply zP));exact Kd.R_mono HO486.out (fun _ hk=>⟨hk.1.1.1.2,hk.2⟩)⟩,⟨by (with_reducible repeat (first|apply Kd.S_alloc|apply Kd.S_drewN|apply Kd.S_drew));exact Kd.S_mono HO499.out (fun _ hk=>⟨hk.1.1.1.2,⟨hk.1.2,hk.1.1.1.1⟩⟩)⟩,⟨by (with_reducible repeat (first|apply zN|apply zO|apply zP));exact Kd.R_mono HO501.out (fun _ hk=>⟨hk.1.1.1.2,hk.1.2⟩)⟩,⟨by repeat (first|(with_reducible first|exact HB.out|apply zJ|apply zG|apply zH)|exact HB.out)⟩⟩
      rw [if_pos c96] at H
      have c96b0 : (t476 == t478) = true:=beq_iff_eq.mpr c96
      have c96b1 : (t476 != t478) = false:=bne_eq_false_iff_eq.mpr c96
      clear c96
      by_cases c97 : (t484 != t488) = true
      · as_aux_lemma =>
        rw [if_pos c97] at H
        have c97b0 : (t484 != t488) = true:=c97
        (try (have c97b1 : decide (t484 = t488) = false:=by simpa using c97));(try (have c97b2 : (t484 == t488) = false:=by simpa using c97));(try (have c97b3 : ¬ (t484 = t488):=by simpa using c97));clear c97;have H':=zI H;clear H
        obtain ⟨Ao98,co98,eo98⟩:=Kd.R_slice HO468.out
        subst eo98
        obtain ⟨Ao99,co99,eo99⟩:=Kd.R_slice HO472.out
        subst eo99
        go_wp2_with (first|(go_at_call 10;(with_reducible refine (laws_xSame.calls kj31 _ _ t465 _ _ t469 true _ ?side1 ?side2 ?side3 ?side4 A91.out).mono ?_);(case side1=>repeat (first|exact (zM HO468.out).2.2|(with_reducible refine zQ ?_ _)|(with_reducible refine zR ?_ _)|(with_reducible refine zS ?_)));(case side2=>exact (zM HO468.out).2.1);(case side3=>repeat (first|exact (zM HO472.out).2.2|(with_reducible refine zQ ?_ _)|(with_reducible refine zR ?_ _)|(with_reducible refine zS ?_)));(case side4=>exact (zM HO472.out).2.1);rintro e w' ⟨rfl,⟨nd,rfl⟩⟩;(try first|exact ⟨rfl,_,zL _ _ _⟩|exact ⟨rfl,_,Eq.trans (zL _ _ _) (congrArg (World.drewN _) (Nat.add_assoc _ _ _))⟩)))
        repeat (go_quiet (first|(go_at_call 10;(with_reducible refine (laws_xSame.calls kj31 _ _ t465 _ _ t469 true _ ?side1 ?side2 ?side3 ?side4 A91.out).mono ?_);(case side1=>repeat (first|exact (zM HO468.out).2.2|(with_reducible refine zQ ?_ _)|(with_reducible refine zR ?_ _)|(with_reducible refine zS ?_)));(case side2=>exact (zM HO468.out).2.1);(case side3=>repeat (first|exact (zM HO472.out).2.2|(with_reducible refine zQ ?_ _)|(with_reducible refine zR ?_ _)|(with_reducible refine zS ?_)));(case side4=>exact (zM HO472.out).2.1);rintro e w' ⟨rfl,⟨nd,rfl⟩⟩;(try first|exact ⟨rfl,_,zL _ _ _⟩|exact ⟨rfl,_,Eq.trans (zL _ _ _) (congrArg (World.drewN _) (Nat.add_assoc _ _ _))⟩)));try go_wp2_with (first|(go_at_call 10;(with_reducible refine (laws_xSame.calls kj31 _ _ t465 _ _ t469 true _ ?side1 ?side2 ?side3 ?side4 A91.out).mono ?_);(case side1=>repeat (first|exact (zM HO468.out).2.2|(with_reducible refine zQ ?_ _)|(with_reducible refine zR ?_ _)|(with_reducible refine zS ?_)));(case side2=>exact (zM HO468.out).2.1);(case side3=>repeat (first|exact (zM HO472.out).2.2|(with_reducible refine zQ ?_ _)|(with_reducible refine zR ?_ _)|(with_reducible refine zS ?_)));(case side4=>exact (zM HO472.out).2.1);rintro e w' ⟨rfl,⟨nd,rfl⟩⟩;(try first|exact ⟨rfl,_,zL _ _ _⟩|exact ⟨rfl,_,Eq.trans (zL _ _ _) (congrArg (World.drewN _) (Nat.add_assoc _ _ _))⟩))))
        go_meet
        case rel=>exact ⟨_,(true),(by first|rfl|(simp;done)|(simp [*];done)),H',⟨by have:=HJ9.out;have:=HJ31.out;first|omega|exact Nat.le_refl _⟩,⟨by (with_reducible repeat (first|apply zN|apply zO|apply zP));exact Kd.R_mono HO468.out (fun _ hk=>⟨hk.1.1.2,hk.2⟩)⟩,⟨by (with_reducible repeat (first|apply zN|apply zO|apply zP));exact Kd.R_mono HO486.out (fun _ hk=>⟨hk.1.1.1.2,hk.2⟩)⟩,⟨by (with_reducible repeat (first|apply Kd.S_alloc|apply Kd.S_drewN|apply Kd.S_drew));exact Kd.S_mono HO499.out (fun _ hk=>⟨hk.1.1.1.2,⟨hk.1.2,hk.1.1.1.1⟩⟩)⟩,⟨by (with_reducible repeat (first|apply zN|apply zO|apply zP));exact Kd.R_mono HO501.out (fun _ hk=>⟨hk.1.1.1.2,hk.1.2⟩)⟩,⟨by repeat (first|(with_reducible first|exact HB.out|apply zJ|apply zG|apply zH)|exact HB.out)⟩⟩
      rw [if_neg c97] at H
      have c97b0 : (t484 != t488) = false:=by simpa using c97
      (try (have c97b1 : decide (t484 = t488) = true:=by simpa using c97));(try (have c97b2 : (t484 == t488) = true:=by simpa using c97));clear c97;replace H:=Option.bind_eq_some_iff.mp H
      obtain ⟨t507,A1000,H⟩:=H
      (try dsimp only at H);have A100:=zI A1000;clear A1000
      by_cases c101 : t507 = true
      rotate_left
      · as_aux_lemma =>
        replace c101:=Bool.eq_false_iff.mpr c101
        subst c101
        have H1 : (laws_FnReadersPlan.j4 kj31 t462 t463 t464 t465 t466 t473 t474 t475 t476 t477 t480 t481 t482 t483 t484 t491 t495 t496 t497 t502 t503 true) = some r:=by rw [if_neg (show ¬ (false = true) by decide)] at H;exact H
        clear H;have H:=H1;clear H1;have H':=zI H;clear H
        obtain ⟨Ao126,co126,eo126⟩:=Kd.R_slice HO468.out
        subst eo126
        obtain ⟨Ao127,co127,eo127⟩:=Kd.R_slice HO472.out
        subst eo127
        go_wp2_with (first|(go_at_call 10;(with_reducible refine (laws_xSame.calls kj31 _ _ t465 _ _ t469 true _ ?side1 ?side2 ?side3 ?side4 A91.out).mono ?_);(case side1=>repeat (first|exact (zM HO468.out).2.2|(with_reducible refine zQ ?_ _)|(with_reducible refine zR ?_ _)|(with_reducible refine zS ?_)));(case side2=>exact (zM HO468.out).2.1);(case side3=>repeat (first|exact (zM HO472.out).2.2|(with_reducible refine zQ ?_ _)|(with_reducible refine zR ?_ _)|(with_reducible refine zS ?_)));(case side4=>exact (zM HO472.out).2.1);rintro e w' ⟨rfl,⟨nd,rfl⟩⟩;(try first|exact ⟨rfl,_,zL _ _ _⟩|exact ⟨rfl,_,Eq.trans (zL _ _ _) (congrArg (World.drewN _) (Nat.add_assoc _ _ _))⟩);obtain ⟨Ao128,co128,eo128⟩:=Kd.R_slice HO486.out;subst eo128;obtain ⟨Ao129,co129,eo129⟩:=Kd.R_slice HO490.out;subst eo129)|(go_at_call 10;(with_reducible refine (laws_xSame.calls kj31 _ _ t483 _ _ t487 false _ ?side1 ?side2 ?side3 ?side4 A100.out).mono ?_);(case side1=>repeat (first|exact (zM HO486.out).2.2|(with_reducible refine zQ ?_ _)|(with_reducible refine zR ?_ _)|(with_reducible refine zS ?_)));(case side2=>exact (zM HO486.out).2.1);(case side3=>repeat (first|exact (zM HO490.out).2.2|(with_reducible refine zQ ?_ _)|(with_reducible refine zR ?_ _)|(with_reducible refine zS ?_)));(case side4=>exact (zM HO490.out).2.1);rintro e w' ⟨rfl,⟨nd,rfl⟩⟩;(try first|exact ⟨rfl,_,zL _ _ _⟩|exact ⟨rfl,_,Eq.trans (zL _ _ _) (congrArg (World.drewN _) (Nat.add_assoc _ _ _))⟩)))
        repeat (go_quiet (first|(go_at_call 10;(with_reducible refine (laws_xSame.calls kj31 _ _ t465 _ _ t469 true _ ?side1 ?side2 ?side3 ?side4 A91.out).mono ?_);(case side1=>repeat (first|exact (zM HO468.out).2.2|(with_reducible refine zQ ?_ _)|(with_reducible refine zR ?_ _)|(with_reducible refine zS ?_)));(case side2=>exact (zM HO468.out).2.1);(case side3=>repeat (first|exact (zM HO472.out).2.2|(with_reducible refine zQ ?_ _)|(with_reducible refine zR ?_ _)|(with_reducible refine zS ?_)));(case side4=>exact (zM HO472.out).2.1);rintro e w' ⟨rfl,⟨nd,rfl⟩⟩;(try first|exact ⟨rfl,_,zL _ _ _⟩|exact ⟨rfl,_,Eq.trans (zL _ _ _) (congrArg (World.drewN _) (Nat.add_assoc _ _ _))⟩);obtain ⟨Ao128,co128,eo128⟩:=Kd.R_slice HO486.out;subst eo128;obtain ⟨Ao129,co129,eo129⟩:=Kd.R_slice HO490.out;subst eo129)|(go_at_call 10;(with_reducible refine (laws_xSame.calls kj31 _ _ t483 _ _ t487 false _ ?side1 ?side2 ?side3 ?side4 A100.out).mono ?_);(case side1=>repeat (first|exact (zM HO486.out).2.2|(with_reducible refine zQ ?_ _)|(with_reducible refine zR ?_ _)|(with_reducible refine zS ?_)));(case side2=>exact (zM HO486.out).2.1);(case side3=>repeat (first|exact (zM HO490.out).2.2|(with_reducible refine zQ ?_ _)|(with_reducible refine zR ?_ _)|(with_reducible refine zS ?_)));(case side4=>exact (zM HO490.out).2.1);rintro e w' ⟨rfl,⟨nd,rfl⟩⟩;(try first|exact ⟨rfl,_,zL _ _ _⟩|exact ⟨rfl,_,Eq.trans (zL _ _ _) (congrArg (World.drewN _) (Nat.add_assoc _ _ _))⟩)));try go_wp2_with (first|(go_at_call 10;(with_reducible refine (laws_xSame.calls kj31 _ _ t465 _ _ t469 true _ ?side1 ?side2 ?side3 ?side4 A91.out).mono ?_);(case side1=>repeat (first|exact (zM HO468.out).2.2|(with_reducible refine zQ ?_ _)|(with_reducible refine zR ?_ _)|(with_reducible refine zS ?_)));(case side2=>exact (zM HO468.out).2.1);(case side3=>repeat (first|exact (zM HO472.out).2.2|(with_reducible refine zQ ?_ _)|(with_reducible refine zR ?_ _)|(with_reducible refine zS ?_)));(case side4=>exact (zM HO472.out).2.1);rintro e w' ⟨rfl,⟨nd,rfl⟩⟩;(try first|exact ⟨rfl,_,zL _ _ _⟩|exact ⟨rfl,_,Eq.trans (zL _ _ _) (congrArg (World.drewN _) (Nat.add_assoc _ _ _))⟩);obtain ⟨Ao128,co128,eo128⟩:=Kd.R_slice HO486.out;subst eo128;obtain ⟨Ao129,co129,eo129⟩:=Kd.R_slice HO490.out;subst eo129)|(go_at_call 10;(with_reducible refine (laws_xSame.calls kj31 _ _ t483 _ _ t487 false _ ?side1 ?side2 ?side3 ?side4 A100.out).mono ?_);(case side1=>repeat (first|exact (zM HO486.out).2.2|(with_reducible refine zQ ?_ _)|(with_reducible refine zR ?_ _)|(with_reducible refine zS ?_)));(case side2=>exact (zM HO486.out).2.1);(case side3=>repeat (first|exact (zM HO490.out).2.2|(with_reducible refine zQ ?_ _)|(with_reducible refine zR ?_ _)|(with_reducible refine zS ?_)));(case side4=>exact (zM HO490.out).2.1);rintro e w' ⟨rfl,⟨nd,rfl⟩⟩;(try first|exact ⟨rfl,_,zL _ _ _⟩|exact ⟨rfl,_,Eq.trans (zL _ _ _) (congrArg (World.drewN _) (Nat.add_assoc _ _ _))⟩))))
        go_meet
        case rel=>exact ⟨_,(true),(by first|rfl|(simp;done)|(simp [*];done)),H',⟨by have:=HJ9.out;have:=HJ31.out;first|omega|exact Nat.le_refl _⟩,⟨by (with_reducible repeat (first|apply zN|apply zO|apply zP));exact Kd.R_mono HO468.out (fun _ hk=>⟨hk.1.1.2,hk.2⟩)⟩,⟨by (with_reducible repeat (first|apply zN|apply zO|apply zP));exact Kd.R_mono HO486.out (fun _ hk=>⟨hk.1.1.1.2,hk.2⟩)⟩,⟨by (with_reducible repeat (first|apply Kd.S_alloc|apply Kd.S_drewN|apply Kd.S_drew));exact Kd.S_mono HO499.out (fun _ hk=>⟨hk.1.1.1.2,⟨hk.1.2,hk.1.1.1.1⟩⟩)⟩,⟨by (with_reducible repeat (first|apply zN|apply zO|apply zP));exact Kd.R_mono HO501.out (fun _ hk=>⟨hk.1.1.1.2,hk.1.2⟩)⟩,⟨by repeat (first|(with_reducible first|exact HB.out|apply zJ|apply zG|apply zH)|exact HB.out)⟩⟩
      subst c101
      have H1 : (if (t492 != t494) = true then (laws_FnReadersPlan.j4 kj31 t462 t463 t464 t465 t466 t473 t474 t475 t476 t477 t480 t481 t482 t483 t484 t491 t495 t496 t497 t502 t503 true) else (if t491 = t493 then (if (t503 != t505) = true then (laws_FnReadersPlan.j4 kj31 t462 t463 t464 t465 t466 t473 t474 t475 t476 t477 t480 t481 t482 t483 t484 t491 t495 t496 t497 t502 t503 true) else (if t502 = t504 then (laws_FnReadersPlan.j4 kj31 t462 t463 t464 t465 t466 t473 t474 t475 t476 t477 t480 t481 t482 t483 t484 t491 t495 t496 t497 t502 t503 (t492 != t484)) else (laws_FnReadersPlan.j4 kj31 t462 t463 t464 t465 t466 t473 t474 t475 t476 t477 t480 t481 t482 t483 t484 t491 t495 t496 t497 t502 t503 true))) else (laws_FnReadersPlan.j4 kj31 t462 t463 t464 t465 t466 t473 t474 t475 t476 t477 t480 t481 t482 t483 t484 t491 t495 t496 t497 t502 t503 true))) = some r:=by rw [if_pos rfl] at H;exact H
      clear H;have H:=H1;clear H1
      by_cases c102 : (t492 != t494) = true
      · as_aux_lemma =>
        rw [if_pos c102] at H
        have c102b0 : (t492 != t494) = true:=c102
        (try (have c102b1 : decide (t492 = t494) = false:=by simpa using c102));(try (have c102b2 : (t492 == t494) = false:=by simpa using c102));(try (have c102b3 : ¬ (t492 = t494):=by simpa using c102));clear c102;have H':=zI H;clear H
        obtain ⟨Ao103,co103,eo103⟩:=Kd.R_slice HO468.out
        subst eo103
        obtain ⟨Ao104,co104,eo104⟩:=Kd.R_slice HO472.out
        subst eo104
        go_wp2_with (first|(go_at_call 10;(with_reducible refine (laws_xSame.calls kj31 _ _ t465 _ _ t469 true _ ?side1 ?side2 ?side3 ?side4 A91.out).mono ?_);(case side1=>repeat (first|exact (zM HO468.out).2.2|(with_reducible refine zQ ?_ _)|(with_reducible refine zR ?_ _)|(with_reducible refine zS ?_)));(case side2=>exact (zM HO468.out).2.1);(case side3=>repeat (first|exact (zM HO472.out).2.2|(with_reducible refine zQ ?_ _)|(with_reducible refine zR ?_ _)|(with_reducible refine zS ?_)));(case side4=>exact (zM HO472.out).2.1);rintro e w' ⟨rfl,⟨nd,rfl⟩⟩;(try first|exact ⟨rfl,_,zL _ _ _⟩|exact ⟨rfl,_,Eq.trans (zL _ _ _) (congrArg (World.drewN _) (Nat.add_assoc _ _ _))⟩);obtain ⟨Ao105,co105,eo105⟩:=Kd.R_slice HO486.out;subst eo105;obtain ⟨Ao106,co106,eo106⟩:=Kd.R_slice HO490.out;subst eo106)|(go_at_call 10;(with_reducible refine (laws_xSame.calls kj31 _ _ t483 _ _ t487 true _ ?side1 ?side2 ?side3 ?side4 A100.out).mono ?_);(case side1=>repeat (first|exact (zM HO486.out).2.2|(with_reducible refine zQ ?_ _)|(with_reducible refine zR ?_ _)|(with_reducible refine zS ?_)));(case side2=>exact (zM HO486.out).2.1);(case side3=>repeat (first|exact (zM HO490.out).2.2|(with_reducible refine zQ ?_ _)|(with_reducible refine zR ?_ _)|(with_reducible refine zS ?_)));(case side4=>exact (zM HO490.out).2.1);rintro e w' ⟨rfl,⟨nd,rfl⟩⟩;(try first|exact ⟨rfl,_,zL _ _ _⟩|exact ⟨rfl,_,Eq.trans (zL _ _ _) (congrArg (World.drewN _) (Nat.add_assoc _ _ _))⟩)))
        repeat (go_quiet (first|(go_at_call 10;(with_reducible refine (laws_xSame.calls kj31 _ _ t465 _ _ t469 true _ ?side1 ?side2 ?side3 ?side4 A91.out).mono ?_);(case side1=>repeat (first|exact (zM HO468.out).2.2|(with_reducible refine zQ ?_ _)|(with_reducible refine zR ?_ _)|(with_reducible refine zS ?_)));(case side2=>exact (zM HO468.out).2.1);(case side3=>repeat (first|exact (zM HO472.out).2.2|(with_reducible refine zQ ?_ _)|(with_reducible refine zR ?_ _)|(with_reducible refine zS ?_)));(case side4=>exact (zM HO472.out).2.1);rintro e w' ⟨rfl,⟨nd,rfl⟩⟩;(try first|exact ⟨rfl,_,zL _ _ _⟩|exact ⟨rfl,_,Eq.trans (zL _ _ _) (congrArg (World.drewN _) (Nat.add_assoc _ _ _))⟩);obtain ⟨Ao105,co105,eo105⟩:=Kd.R_slice HO486.out;subst eo105;obtain ⟨Ao106,co106,eo106⟩:=Kd.R_slice HO490.out;subst eo106)|(go_at_call 10;(with_reducible refine (laws_xSame.calls kj31 _ _ t483 _ _ t487 true _ ?side1 ?side2 ?side3 ?side4 A100.out).mono ?_);(case side1=>repeat (first|exact (zM HO486.out).2.2|(with_reducible refine zQ ?_ _)|(with_reducible refine zR ?_ _)|(with_reducible refine zS ?_)));(case side2=>exact (zM HO486.out).2.1);(case side3=>repeat (first|exact (zM HO490.out).2.2|(with_reducible refine zQ ?_ _)|(with_reducible refine zR ?_ _)|(with_reducible refine zS ?_)));(case side4=>exact (zM HO490.out).2.1);rintro e w' ⟨rfl,⟨nd,rfl⟩⟩;(try first|exact ⟨rfl,_,zL _ _ _⟩|exact ⟨rfl,_,Eq.trans (zL _ _ _) (congrArg (World.drewN _) (Nat.add_assoc _ _ _))⟩)));try go_wp2_with (first|(go_at_call 10;(with_reducible refine (laws_xSame.calls kj31 _ _ t465 _ _ t469 true _ ?side1 ?side2 ?side3 ?side4 A91.out).mono ?_);(case side1=>repeat (first|exact (zM HO468.out).2.2|(with_reducible refine zQ ?_ _)|(with_reducible refine zR ?_ _)|(with_reducible refine zS ?_)));(case side2=>exact (zM HO468.out).2.1);(case side3=>repeat (first|exact (zM HO472.out).2.2|(with_reducible refine zQ ?_ _)|(with_reducible refine zR ?_ _)|(with_reducible refine zS ?_)));(case side4=>exact (zM HO472.out).2.1);rintro e w' ⟨rfl,⟨nd,rfl⟩⟩;(try first|exact ⟨rfl,_,zL _ _ _⟩|exact ⟨rfl,_,Eq.trans (zL _ _ _) (congrArg (World.drewN _) (Nat.add_assoc _ _ _))⟩);obtain ⟨Ao105,co105,eo105⟩:=Kd.R_slice HO486.out;subst eo105;obtain ⟨Ao106,co106,eo106⟩:=Kd.R_slice HO490.out;subst eo106)|(go_at_call 10;(with_reducible refine (laws_xSame.calls kj31 _ _ t483 _ _ t487 true _ ?side1 ?side2 ?side3 ?side4 A100.out).mono ?_);(case side1=>repeat (first|exact (zM HO486.out).2.2|(with_reducible refine zQ ?_ _)|(with_reducible refine zR ?_ _)|(with_reducible refine zS ?_)));(case side2=>exact (zM HO486.out).2.1);(case side3=>repeat (first|exact (zM HO490.out).2.2|(with_reducible refine zQ ?_ _)|(with_reducible refine zR ?_ _)|(with_reducible refine zS ?_)));(case side4=>exact (zM HO490.out).2.1);rintro e w' ⟨rfl,⟨nd,rfl⟩⟩;(try first|exact ⟨rfl,_,zL _ _ _⟩|exact ⟨rfl,_,Eq.trans (zL _ _ _) (congrArg (World.drewN _) (Nat.add_assoc _ _ _))⟩))))
        go_meet
        case rel=>exact ⟨_,(true),(by first|rfl|(simp;done)|(simp [*];done)),H',⟨by have:=HJ9.out;have:=HJ31.out;first|omega|exact Nat.le_refl _⟩,⟨by (with_reducible repeat (first|apply zN|apply zO|apply zP));exact Kd.R_mono HO468.out (fun _ hk=>⟨hk.1.1.2,hk.2⟩)⟩,⟨by (with_reducible repeat (first|apply zN|apply zO|apply zP));exact Kd.R_mono HO486.out (fun _ hk=>⟨hk.1.1.1.2,hk.2⟩)⟩,⟨by (with_reducible repeat (first|apply Kd.S_alloc|apply Kd.S_drewN|apply Kd.S_drew));exact Kd.S_mono HO499.out (fun _ hk=>⟨hk.1.1.1.2,⟨hk.1.2,hk.1.1.1.1⟩⟩)⟩,⟨by (with_reducible repeat (first|apply zN|apply zO|apply zP));exact Kd.R_mono HO501.out (fun _ hk=>⟨hk.1.1.1.2,hk.1.2⟩)⟩,⟨by repeat (first|(with_reducible first|exact HB.out|apply zJ|apply zG|apply zH)|exact HB.out)⟩⟩
      rw [if_neg c102] at H
      have c102b0 : (t492 != t494) = false:=by simpa using c102
      (try (have c102b1 : decide (t492 = t494) = true:=by simpa using c102));(try (have c102b2 : (t492 == t494) = true:=by simpa using c102));clear c102
      by_cases c107 : t491 = t493
      rotate_left
      · as_aux_lemma =>
        rw [if_neg c107] at H
        have c107b0 : (t491 == t493) = false:=beq_eq_false_iff_ne.mpr c107
        have c107b1 : (t491 != t493) = true:=bne_iff_ne.mpr c107
        have H':=zI H;clear H
        obtain ⟨Ao122,co122,eo122⟩:=Kd.R_slice HO468.out
        subst eo122
        obtain ⟨Ao123,co123,eo123⟩:=Kd.R_slice HO472.out
        subst eo123
        go_wp2_with (first|(go_at_call 10;(with_reducible refine (laws_xSame.calls kj31 _ _ t465 _ _ t469 true _ ?side1 ?side2 ?side3 ?side4 A91.out).mono ?_);(case side1=>repeat (first|exact (zM HO468.out).2.2|(with_reducible refine zQ ?_ _)|(with_reducible refine zR ?_ _)|(with_reducible refine zS ?_)));(case side2=>exact (zM HO468.out).2.1);(case side3=>repeat (first|exact (zM HO472.out).2.2|(with_reducible refine zQ ?_ _)|(with_reducible refine zR ?_ _)|(with_reducible refine zS ?_)));(case side4=>exact (zM HO472.out).2.1);rintro e w' ⟨rfl,⟨nd,rfl⟩⟩;(try first|exact ⟨rfl,_,zL _ _ _⟩|exact ⟨rfl,_,Eq.trans (zL _ _ _) (congrArg (World.drewN _) (Nat.add_assoc _ _ _))⟩);obtain ⟨Ao124,co124,eo124⟩:=Kd.R_slice HO486.out;subst eo124;obtain ⟨Ao125,co125,eo125⟩:=Kd.R_slice HO490.out;subst eo125)|(go_at_call 10;(with_reducible refine (laws_xSame.calls kj31 _ _ t483 _ _ t487 true _ ?side1 ?side2 ?side3 ?side4 A100.out).mono ?_);(case side1=>repeat (first|exact (zM HO486.out).2.2|(with_reducible refine zQ ?_ _)|(with_reducible refine zR ?_ _)|(with_reducible refine zS ?_)));(case side2=>exact (zM HO486.out).2.1);(case side3=>repeat (first|exact (zM HO490.out).2.2|(with_reducible refine zQ ?_ _)|(with_reducible refine zR ?_ _)|(with_reducible refine zS ?_)));(case side4=>exact (zM HO490.out).2.1);rintro e w' ⟨rfl,⟨nd,rfl⟩⟩;(try first|exact ⟨rfl,_,zL _ _ _⟩|exact ⟨rfl,_,Eq.trans (zL _ _ _) (congrArg (World.drewN _) (Nat.add_assoc _ _ _))⟩)))
        repeat (go_quiet (first|(go_at_call 10;(with_reducible refine (laws_xSame.calls kj31 _ _ t465 _ _ t469 true _ ?side1 ?side2 ?side3 ?side4 A91.out).mono ?_);(case side1=>repeat (first|exact (zM HO468.out).2.2|(with_reducible refine zQ ?_ _)|(with_reducible refine zR ?_ _)|(with_reducible refine zS ?_)));(case side2=>exact (zM HO468.out).2.1);(case side3=>repeat (first|exact (zM HO472.out).2.2|(with_reducible refine zQ ?_ _)|(with_reducible refine zR ?_ _)|(with_reducible refine zS ?_)));(case side4=>exact (zM HO472.out).2.1);rintro e w' ⟨rfl,⟨nd,rfl⟩⟩;(try first|exact ⟨rfl,_,zL _ _ _⟩|exact ⟨rfl,_,Eq.trans (zL _ _ _) (congrArg (World.drewN _) (Nat.add_assoc _ _ _))⟩);obtain ⟨Ao124,co124,eo124⟩:=Kd.R_slice HO486.out;subst eo124;obtain ⟨Ao125,co125,eo125⟩:=Kd.R_slice HO490.out;subst eo125)|(go_at_call 10;(with_reducible refine (laws_xSame.calls kj31 _ _ t483 _ _ t487 true _ ?side1 ?side2 ?side3 ?side4 A100.out).mono ?_);(case side1=>repeat (first|exact (zM HO486.out).2.2|(with_reducible refine zQ ?_ _)|(with_reducible refine zR ?_ _)|(with_reducible refine zS ?_)));(case side2=>exact (zM HO486.out).2.1);(case side3=>repeat (first|exact (zM HO490.out).2.2|(with_reducible refine zQ ?_ _)|(with_reducible refine zR ?_ _)|(with_reducible refine zS ?_)));(case side4=>exact (zM HO490.out).2.1);rintro e w' ⟨rfl,⟨nd,rfl⟩⟩;(try first|exact ⟨rfl,_,zL _ _ _⟩|exact ⟨rfl,_,Eq.trans (zL _ _ _) (congrArg (World.drewN _) (Nat.add_assoc _ _ _))⟩)));try go_wp2_with (first|(go_at_call 10;(with_reducible refine (laws_xSame.calls kj31 _ _ t465 _ _ t469 true _ ?side1 ?side2 ?side3 ?side4 A91.out).mono ?_);(case side1=>repeat (first|exact (zM HO468.out).2.2|(with_reducible refine zQ ?_ _)|(with_reducible refine zR ?_ _)|(with_reducible refine zS ?_)));(case side2=>exact (zM HO468.out).2.1);(case side3=>repeat (first|exact (zM HO472.out).2.2|(with_reducible refine zQ ?_ _)|(with_reducible refine zR ?_ _)|(with_reducible refine zS ?_)));(case side4=>exact (zM HO472.out).2.1);rintro e w' ⟨rfl,⟨nd,rfl⟩⟩;(try first|exact ⟨rfl,_,zL _ _ _⟩|exact ⟨rfl,_,Eq.trans (zL _ _ _) (congrArg (World.drewN _) (Nat.add_assoc _ _ _))⟩);obtain ⟨Ao124,co124,eo124⟩:=Kd.R_slice HO486.out;subst eo124;obtain ⟨Ao125,co125,eo125⟩:=Kd.R_slice HO490.out;subst eo125)|(go_at_call 10;(with_reducible refine (laws_xSame.calls kj31 _ _ t483 _ _ t487 true _ ?side1 ?side2 ?side3 ?side4 A100.out).mono ?_);(case side1=>repeat (first|exact (zM HO486.out).2.2|(with_reducible refine zQ ?_ _)|(with_reducible refine zR ?_ _)|(with_reducible refine zS ?_)));(case side2=>exact (zM HO486.out).2.1);(case side3=>repeat (first|exact (zM HO490.out).2.2|(with_reducible refine zQ ?_ _)|(with_reducible refine zR ?_ _)|(with_reducible refine zS ?_)));(case side4=>exact (zM HO490.out).2.1);rintro e w' ⟨rfl,⟨nd,rfl⟩⟩;(try first|exact ⟨rfl,_,zL _ _ _⟩|exact ⟨rfl,_,Eq.trans (zL _ _ _) (congrArg (World.drewN _) (Nat.add_assoc _ _ _))⟩))))
        go_meet
        case rel=>exact ⟨_,(true),(by first|rfl|(simp;done)|(simp [*];done)),H',⟨by have:=HJ9.out;have:=HJ31.out;first|omega|exact Nat.le_refl _⟩,⟨by (with_reducible repeat (first|apply zN|apply zO|apply zP));exact Kd.R_mono HO468.out (fun _ hk=>⟨hk.1.1.2,hk.2⟩)⟩,⟨by (with_reducible repeat (first|apply zN|apply zO|apply zP));exact Kd.R_mono HO486.out (fun _ hk=>⟨hk.1.1.1.2,hk.2⟩)⟩,⟨by (with_reducible repeat (first|apply Kd.S_alloc|apply Kd.S_drewN|apply Kd.S_drew));exact Kd.S_mono HO499.out (fun _ hk=>⟨hk.1.1.1.2,⟨hk.1.2,hk.1.1.1.1⟩⟩)⟩,⟨by (with_reducible repeat (first|apply zN|apply zO|apply zP));exact Kd.R_mono HO501.out (fun _ hk=>⟨hk.1.1.1.2,hk.1.2⟩)⟩,⟨by repeat (first|(with_reducible first|exact HB.out|apply zJ|apply zG|apply zH)|exact HB.out)⟩⟩
      rw [if_pos c107] at H
      have c107b0 : (t491 == t493) = true:=beq_iff_eq.mpr c107
      have c107b1 : (t491 != t493) = false:=bne_eq_false_iff_eq.mpr c107
      clear c107
      by_cases c108 : (t503 != t505) = true
      · as_aux_lemma =>
        rw [if_pos c108] at H
        have c108b0 : (t503 != t505) = true:=c108
        (try (have c108b1 : decide (t503 = t505) = false:=by simpa using c108));(try (have c108b2 : (t503 == t505) = false:=by simpa using c108));(try (have c108b3 : ¬ (t503 = t505):=by simpa using c108));clear c108;have H':=zI H;clear H
        obtain ⟨Ao109,co109,eo109⟩:=Kd.R_slice HO468.out
        subst eo109
        obtain ⟨Ao110,co110,eo110⟩:=Kd.R_slice HO472.out
        subst eo110
        go_wp2_with (first|(go_at_call 10;(with_reducible refine (laws_xSame.calls kj31 _ _ t465 _ _ t469 true _ ?side1 ?side2 ?side3 ?side4 A91.out).mono ?_);(case side1=>repeat (first|exact (zM HO468.out).2.2|(with_reducible refine zQ ?_ _)|(with_reducible refine zR ?_ _)|(with_reducible refine zS ?_)));(case side2=>exact (zM HO468.out).2.1);(case side3=>repeat (first|exact (zM HO472.out).2.2|(with_reducible refine zQ ?_ _)|(with_reducible refine zR ?_ _)|(with_reducible refine zS ?_)));(case side4=>exact (zM HO472.out).2.1);rintro e w' ⟨rfl,⟨nd,rfl⟩⟩;(try first|exact ⟨rfl,_,zL _ _ _⟩|exact ⟨rfl,_,Eq.trans (zL _ _ _) (congrArg (World.drewN _) (Nat.add_assoc _ _ _))⟩);obtain ⟨Ao111,co111,eo111⟩:=Kd.R_slice HO486.out;subst eo111;obtain ⟨Ao112,co112,eo112⟩:=Kd.R_slice HO490.out;subst eo112)|(go_at_call 10;(with_reducible refine (laws_xSame.calls kj31 _ _ t483 _ _ t487 true _ ?side1 ?side2 ?side3 ?side4 A100.out).mono ?_);(case side1=>repeat (first|exact (zM HO486.out).2.2|(with_reducible refine zQ ?_ _)|(with_reducible refine zR ?_ _)|(with_reducible refine zS ?_)));(case side2=>exact (zM HO486.out).2.1);(case side3=>repeat (first|exact (zM HO490.out).2.2|(with_reducible refine zQ ?_ _)|(with_reducible refine zR ?_ _)|(with_reducible refine zS ?_)));(case side4=>exact (zM HO490.out).2.1);rintro e w' ⟨rfl,⟨nd,rfl⟩⟩;(try first|exact ⟨rfl,_,zL _ _ _⟩|exact ⟨rfl,_,Eq.trans (zL _ _ _) (congrArg (World.drewN _) (Nat.add_assoc _ _ _))⟩)))
        repeat (go_quiet (first|(go_at_call 10;(with_reducible refine (laws_xSame.calls kj31 _ _ t465 _ _ t469 true _ ?side1 ?side2 ?side3 ?side4 A91.out).mono ?_);(case side1=>repeat (first|exact (zM HO468.out).2.2|(with_reducible refine zQ ?_ _)|(with_reducible refine zR ?_ _)|(with_reducible refine zS ?_)));(case side2=>exact (zM HO468.out).2.1);(case side3=>repeat (first|exact (zM HO472.out).2.2|(with_reducible refine zQ ?_ _)|(with_reducible refine zR ?_ _)|(with_reducible refine zS ?_)));(case side4=>exact (zM HO472.out).2.1);rintro e w' ⟨rfl,⟨nd,rfl⟩⟩;(try first|exact ⟨rfl,_,zL _ _ _⟩|exact ⟨rfl,_,Eq.trans (zL _ _ _) (congrArg (World.drewN _) (Nat.add_assoc _ _ _))⟩);obtain ⟨Ao111,co111,eo111⟩:=Kd.R_slice HO486.out;subst eo111;obtain ⟨Ao112,co112,eo112⟩:=Kd.R_slice HO490.out;subst eo112)|(go_at_call 10;(with_reducible refine (laws_xSame.calls kj31 _ _ t483 _ _ t487 true _ ?side1 ?side2 ?side3 ?side4 A100.out).mono ?_);(case side1=>repeat (first|exact (zM HO486.out).2.2|(with_reducible refine zQ ?_ _)|(with_reducible refine zR ?_ _)|(with_reducible refine zS ?_)));(case side2=>exact (zM HO486.out).2.1);(case side3=>repeat (first|exact (zM HO490.out).2.2|(with_reducible refine zQ ?_ _)|(with_reducible refine zR ?_ _)|(with_reducible refine zS ?_)));(case side4=>exact (zM HO490.out).2.1);rintro e w' ⟨rfl,⟨nd,rfl⟩⟩;(try first|exact ⟨rfl,_,zL _ _ _⟩|exact ⟨rfl,_,Eq.trans (zL _ _ _) (congrArg (World.drewN _) (Nat.add_assoc _ _ _))⟩)));try go_wp2_with (first|(go_at_call 10;(with_reducible refine (laws_xSame.calls kj31 _ _ t465 _ _ t469 true _ ?side1 ?side2 ?side3 ?side4 A91.out).mono ?_);(case side1=>repeat (first|exact (zM HO468.out).2.2|(with_reducible refine zQ ?_ _)|(with_reducible refine zR ?_ _)|(with_reducible refine zS ?_)));(case side2=>exact (zM HO468.out).2.1);(case side3=>repeat (first|exact (zM HO472.out).2.2|(with_reducible refine zQ ?_ _)|(with_reducible refine zR ?_ _)|(with_reducible refine zS ?_)));(case side4=>exact (zM HO472.out).2.1);rintro e w' ⟨rfl,⟨nd,rfl⟩⟩;(try first|exact ⟨rfl,_,zL _ _ _⟩|exact ⟨rfl,_,Eq.trans (zL _ _ _) (congrArg (World.drewN _) (Nat.add_assoc _ _ _))⟩);obtain ⟨Ao111,co111,eo111⟩:=Kd.R_slice HO486.out;subst eo111;obtain ⟨Ao112,co112,eo112⟩:=Kd.R_slice HO490.out;subst eo112)|(go_at_call 10;(with_reducible refine (laws_xSame.calls kj31 _ _ t483 _ _ t487 true _ ?side1 ?side2 ?side3 ?side4 A100.out).mono ?_);(case side1=>repeat (first|exact (zM HO486.out).2.2|(with_reducible refine zQ ?_ _)|(with_reducible refine zR ?_ _)|(with_reducible refine zS ?_)));(case side2=>exact (zM HO486.out).2.1);(case side3=>repeat (first|exact (zM HO490.out).2.2|(with_reducible refine zQ ?_ _)|(with_reducible refine zR ?_ _)|(with_reducible refine zS ?_)));(case side4=>exact (zM HO490.out).2.1);rintro e w' ⟨rfl,⟨nd,rfl⟩⟩;(try first|exact ⟨rfl,_,zL _ _ _⟩|exact ⟨rfl,_,Eq.trans (zL _ _ _) (congrArg (World.drewN _) (Nat.add_assoc _ _ _))⟩))))
        go_meet
        case rel=>exact ⟨_,(true),(by first|rfl|(simp;done)|(simp [*];done)),H',⟨by have:=HJ9.out;have:=HJ31.out;first|omega|exact Nat.le_refl _⟩,⟨by (with_reducible repeat (first|apply zN|apply zO|apply zP));exact Kd.R_mono HO468.out (fun _ hk=>⟨hk.1.1.2,hk.2⟩)⟩,⟨by (with_reducible repeat (first|apply zN|apply zO|apply zP));exact Kd.R_mono HO486.out (fun _ hk=>⟨hk.1.1.1.2,hk.2⟩)⟩,⟨by (with_reducible repeat (first|apply Kd.S_alloc|apply Kd.S_drewN|apply Kd.S_drew));exact Kd.S_mono HO499.out (fun _ hk=>⟨hk.1.1.1.2,⟨hk.1.2,hk.1.1.1.1⟩⟩)⟩,⟨by (with_reducible repeat (first|apply zN|apply zO|apply zP));exact Kd.R_mono HO501.out (fun _ hk=>⟨hk.1.1.1.2,hk.1.2⟩)⟩,⟨by repeat (first|(with_reducible first|exact HB.out|apply zJ|apply zG|apply zH)|exact HB.out)⟩⟩
      rw [if_neg c108] at H
      have c108b0 : (t503 != t505) = false:=by simpa using c108
      (try (have c108b1 : decide (t503 = t505) = true:=by simpa using c108));(try (have c108b2 : (t503 == t505) = true:=by simpa using c108));clear c108
      by_cases c113 : t502 = t504
      rotate_left
      · as_aux_lemma =>
        rw [if_neg c113] at H
        have c113b0 : (t502 == t504) = false:=beq_eq_false_iff_ne.mpr c113
        have c113b1 : (t502 != t504) = true:=bne_iff_ne.mpr c113
        have H':=zI H;clear H
        obtain ⟨Ao118,co118,eo118⟩:=Kd.R_slice HO468.out
        subst eo118
        obtain ⟨Ao119,co119,eo119⟩:=Kd.R_slice HO472.out
        subst eo119
        go_wp2_with (first|(go_at_call 10;(with_reducible refine (laws_xSame.calls kj31 _ _ t465 _ _ t469 true _ ?side1 ?side2 ?side3 ?side4 A91.out).mono ?_);(case side1=>repeat (first|exact (zM HO468.out).2.2|(with_reducible refine zQ ?_ _)|(with_reducible refine zR ?_ _)|(with_reducible refine zS ?_)));(case side2=>exact (zM HO468.out).2.1);(case side3=>repeat (first|exact (zM HO472.out).2.2|(with_reducible refine zQ ?_ _)|(with_reducible refine zR ?_ _)|(with_reducible refine zS ?_)));(case side4=>exact (zM HO472.out).2.1);rintro e w' ⟨rfl,⟨nd,rfl⟩⟩;(try first|exact ⟨rfl,_,zL _ _ _⟩|exact ⟨rfl,_,Eq.trans (zL _ _ _) (congrArg (World.drewN _) (Nat.add_assoc _ _ _))⟩);obtain ⟨Ao120,co120,eo120⟩:=Kd.R_slice HO486.out;subst eo120;obtain ⟨Ao121,co121,eo121⟩:=Kd.R_slice HO490.out;subst eo121)|(go_at_call 10;(with_reducible refine (laws_xSame.calls kj31 _ _ t483 _ _ t487 true _ ?side1 ?side2 ?side3 ?side4 A100.out).mono ?_);(case side1=>repeat (first|exact (zM HO486.out).2.2|(with_reducible refine zQ ?_ _)|(with_reducible refine zR ?_ _)|(with_reducible refine zS ?_)));(case side2=>exact (zM HO486.out).2.1);(case side3=>repeat (first|exact (zM HO490.out).2.2|(with_reducible refine zQ ?_ _)|(with_reducible refine zR ?_ _)|(with_reducible refine zS ?_)));(case side4=>exact (zM HO490.out).2.1);rintro e w' ⟨rfl,⟨nd,rfl⟩⟩;(try first|exact ⟨rfl,_,zL _ _ _⟩|exact ⟨rfl,_,Eq.trans (zL _ _ _) (congrArg (World.drewN _) (Nat.add_assoc _ _ _))⟩)))
        repeat (go_quiet (first|(go_at_call 10;(with_reducible refine (laws_xSame.calls kj31 _ _ t465 _ _ t469 true _ ?side1 ?side2 ?side3 ?side4 A91.out).mono ?_);(case side1=>repeat (first|exact (zM HO468.out).2.2|(with_reducible refine zQ ?_ _)|(with_reducible refine zR ?_ _)|(with_reducible refine zS ?_)));(case side2=>exact (zM HO468.out).2.1);(case side3=>repeat (first|exact (zM HO472.out).2.2|(with_reducible refine zQ ?_ _)|(with_reducible refine zR ?_ _)|(with_reducible refine zS ?_)));(case side4=>exact (zM HO472.out).2.1);rintro e w' ⟨rfl,⟨nd,rfl⟩⟩;(try first|exact ⟨rfl,_,zL _ _ _⟩|exact ⟨rfl,_,Eq.trans (zL _ _ _) (congrArg (World.drewN _) (Nat.add_assoc _ _ _))⟩);obtain ⟨Ao120,co120,eo120⟩:=Kd.R_slice HO486.out;subst eo120;obtain ⟨Ao121,co121,eo121⟩:=Kd.R_slice HO490.out;subst eo121)|(go_at_call 10;(with_reducible refine (laws_xSame.calls kj31 _ _ t483 _ _ t487 true _ ?side1 ?side2 ?side3 ?side4 A100.out).mono ?_);(case side1=>repeat (first|exact (zM HO486.out).2.2|(with_reducible refine zQ ?_ _)|(with_reducible refine zR ?_ _)|(with_reducible refine zS ?_)));(case side2=>exact (zM HO486.out).2.1);(case side3=>repeat (first|exact (zM HO490.out).2.2|(with_reducible refine zQ ?_ _)|(with_reducible refine zR ?_ _)|(with_reducible refine zS ?_)));(case side4=>exact (zM HO490.out).2.1);rintro e w' ⟨rfl,⟨nd,rfl⟩⟩;(try first|exact ⟨rfl,_,zL _ _ _⟩|exact ⟨rfl,_,Eq.trans (zL _ _ _) (congrArg (World.drewN _) (Nat.add_assoc _ _ _))⟩)));try go_wp2_with (first|(go_at_call 10;(with_reducible refine (laws_xSame.calls kj31 _ _ t465 _ _ t469 true _ ?side1 ?side2 ?side3 ?side4 A91.out).mono ?_);(case side1=>repeat (first|exact (zM HO468.out).2.2|(with_reducible refine zQ ?_ _)|(with_reducible refine zR ?_ _)|(with_reducible refine zS ?_)));(case side2=>exact (zM HO468.out).2.1);(case side3=>repeat (first|exact (zM HO472.out).2.2|(with_reducible refine zQ ?_ _)|(with_reducible refine zR ?_ _)|(with_reducible refine zS ?_)));(case side4=>exact (zM HO472.out).2.1);rintro e w' ⟨rfl,⟨nd,rfl⟩⟩;(try first|exact ⟨rfl,_,zL _ _ _⟩|exact ⟨rfl,_,Eq.trans (zL _ _ _) (congrArg (World.drewN _) (Nat.add_assoc _ _ _))⟩);obtain ⟨Ao120,co120,eo120⟩:=Kd.R_slice HO486.out;subst eo120;obtain ⟨Ao121,co121,eo121⟩:=Kd.R_slice HO490.out;subst eo121)|(go_at_call 10;(with_reducible refine (laws_xSame.calls kj31 _ _ t483 _ _ t487 true _ ?side1 ?side2 ?side3 ?side4 A100.out).mono ?_);(case side1=>repeat (first|exact (zM HO486.out).2.2|(with_reducible refine zQ ?_ _)|(with_reducible refine zR ?_ _)|(with_reducible refine zS ?_)));(case side2=>exact (zM HO486.out).2.1);(case side3=>repeat (first|exact (zM HO490.out).2.2|(with_reducible refine zQ ?_ _)|(with_reducible refine zR ?_ _)|(with_reducible refine zS ?_)));(case side4=>exact (zM HO490.out).2.1);rintro e w' ⟨rfl,⟨nd,rfl⟩⟩;(try first|exact ⟨rfl,_,zL _ _ _⟩|exact ⟨rfl,_,Eq.trans (zL _ _ _) (congrArg (World.drewN _) (Nat.add_assoc _ _ _))⟩))))
        go_meet
        case rel=>exact ⟨_,(true),(by first|rfl|(simp;done)|(simp [*];done)),H',⟨by have:=HJ9.out;have:=HJ31.out;first|omega|exact Nat.le_refl _⟩,⟨by (with_reducible repeat (first|apply zN|apply zO|apply zP));exact Kd.R_mono HO468.out (fun _ hk=>⟨hk.1.1.2,hk.2⟩)⟩,⟨by (with_reducible repeat (first|apply zN|apply zO|apply zP));exact Kd.R_mono HO486.out (fun _ hk=>⟨hk.1.1.1.2,hk.2⟩)⟩,⟨by (with_reducible repeat (first|apply Kd.S_alloc|apply Kd.S_drewN|apply Kd.S_drew));exact Kd.S_mono HO499.out (fun _ hk=>⟨hk.1.1.1.2,⟨hk.1.2,hk.1.1.1.1⟩⟩)⟩,⟨by (with_reducible repeat (first|apply zN|apply zO|apply zP));exact Kd.R_mono HO501.out (fun _ hk=>⟨hk.1.1.1.2,hk.1.2⟩)⟩,⟨by repeat (first|(with_reducible first|exact HB.out|apply zJ|apply zG|apply zH)|exact HB.out)⟩⟩
      rw [if_pos c113] at H
      have c113b0 : (t502 == t504) = true:=beq_iff_eq.mpr c113
      have c113b1 : (t502 != t504) = false:=bne_eq_false_iff_eq.mpr c113
      clear c113;have H':=zI H;clear H
      obtain ⟨Ao114,co114,eo114⟩:=Kd.R_slice HO468.out
      subst eo114
      obtain ⟨Ao115,co115,eo115⟩:=Kd.R_slice HO472.out
      subst eo115
      go_wp2_with (first|(go_at_call 10;(with_reducible refine (laws_xSame.calls kj31 _ _ t465 _ _ t469 true _ ?side1 ?side2 ?side3 ?side4 A91.out).mono ?_);(case side1=>repeat (first|exact (zM HO468.out).2.2|(with_reducible refine zQ ?_ _)|(with_reducible refine zR ?_ _)|(with_reducible refine zS ?_)));(case side2=>exact (zM HO468.out).2.1);(case side3=>repeat (first|exact (zM HO472.out).2.2|(with_reducible refine zQ ?_ _)|(with_reducible refine zR ?_ _)|(with_reducible refine zS ?_)));(case side4=>exact (zM HO472.out).2.1);rintro e w' ⟨rfl,⟨nd,rfl⟩⟩;(try first|exact ⟨rfl,_,zL _ _ _⟩|exact ⟨rfl,_,Eq.trans (zL _ _ _) (congrArg (World.drewN _) (Nat.add_assoc _ _ _))⟩);obtain ⟨Ao116,co116,eo116⟩:=Kd.R_slice HO486.out;subst eo116;obtain ⟨Ao117,co117,eo117⟩:=Kd.R_slice HO490.out;subst eo117)|(go_at_call 10;(with_reducible refine (laws_xSame.calls kj31 _ _ t483 _ _ t487 true _ ?side1 ?side2 ?side3 ?side4 A100.out).mono ?_);(case side1=>repeat (first|exact (zM HO486.out).2.2|(with_reducible refine zQ ?_ _)|(with_reducible refine zR ?_ _)|(with_reducible refine zS ?_)));(case side2=>exact (zM HO486.out).2.1);(case side3=>repeat (first|exact (zM HO490.out).2.2|(with_reducible refine zQ ?_ _)|(with_reducible refine zR ?_ _)|(with_reducible refine zS ?_)));(case side4=>exact (zM HO490.out).2.1);rintro e w' ⟨rfl,⟨nd,rfl⟩⟩;(try first|exact ⟨rfl,_,zL _ _ _⟩|exact ⟨rfl,_,Eq.trans (zL _ _ _) (congrArg (World.drewN _) (Nat.add_assoc _ _ _))⟩)))
      repeat (go_quiet (first|(go_at_call 10;(with_reducible refine (laws_xSame.calls kj31 _ _ t465 _ _ t469 true _ ?side1 ?side2 ?side3 ?side4 A91.out).mono ?_);(case side1=>repeat (first|exact (zM HO468.out).2.2|(with_reducible refine zQ ?_ _)|(with_reducible refine zR ?_ _)|(with_reducible refine zS ?_)));(case side2=>exact (zM HO468.out).2.1);(case side3=>repeat (first|exact (zM HO472.out).2.2|(with_reducible refine zQ ?_ _)|(with_reducible refine zR ?_ _)|(with_reducible refine zS ?_)));(case side4=>exact (zM HO472.out).2.1);rintro e w' ⟨rfl,⟨nd,rfl⟩⟩;(try first|exact ⟨rfl,_,zL _ _ _⟩|exact ⟨rfl,_,Eq.trans (zL _ _ _) (congrArg (World.drewN _) (Nat.add_assoc _ _ _))⟩);obtain ⟨Ao116,co116,eo116⟩:=Kd.R_slice HO486.out;subst eo116;obtain ⟨Ao117,co117,eo117⟩:=Kd.R_slice HO490.out;subst eo117)|(go_at_call 10;(with_reducible refine (laws_xSame.calls kj31 _ _ t483 _ _ t487 true _ ?side1 ?side2 ?side3 ?side4 A100.out).mono ?_);(case side1=>repeat (first|exact (zM HO486.out).2.2|(with_reducible refine zQ ?_ _)|(with_reducible refine zR ?_ _)|(with_reducible refine zS ?_)));(case side2=>exact (zM HO486.out).2.1);(case side3=>repeat (first|exact (zM HO490.out).2.2|(with_reducible refine zQ ?_ _)|(with_reducible refine zR ?_ _)|(with_reducible refine zS ?_)));(case side4=>exact (zM HO490.out).2.1);rintro e w' ⟨rfl,⟨nd,rfl⟩⟩;(try first|exact ⟨rfl,_,zL _ _ _⟩|exact ⟨rfl,_,Eq.trans (zL _ _ _) (congrArg (World.drewN _) (Nat.add_assoc _ _ _))⟩)));try go_wp2_with (first|(go_at_call 10;(with_reducible refine (laws_xSame.calls kj31 _ _ t465 _ _ t469 true _ ?side1 ?side2 ?side3 ?side4 A91.out).mono ?_);(case side1=>repeat (first|exact (zM HO468.out).2.2|(with_reducible refine zQ ?_ _)|(with_reducible refine zR ?_ _)|(with_reducible refine zS ?_)));(case side2=>exact (zM HO468.out).2.1);(case side3=>repeat (first|exact (zM HO472.out).2.2|(with_reducible refine zQ ?_ _)|(with_reducible refine zR ?_ _)|(with_reducible refine zS ?_)));(case side4=>exact (zM HO472.out).2.1);rintro e w' ⟨rfl,⟨nd,rfl⟩⟩;(try first|exact ⟨rfl,_,zL _ _ _⟩|exact ⟨rfl,_,Eq.trans (zL _ _ _) (congrArg (World.drewN _) (Nat.add_assoc _ _ _))⟩);obtain ⟨Ao116,co116,eo116⟩:=Kd.R_slice HO486.out;subst eo116;obtain ⟨Ao117,co117,eo117⟩:=Kd.R_slice HO490.out;subst eo117)|(go_at_call 10;(with_reducible refine (laws_xSame.calls kj31 _ _ t483 _ _ t487 true _ ?side1 ?side2 ?side3 ?side4 A100.out).mono ?_);(case side1=>repeat (first|exact (zM HO486.out).2.2|(with_reducible refine zQ ?_ _)|(with_reducible refine zR ?_ _)|(with_reducible refine zS ?_)));(case side2=>exact (zM HO486.out).2.1);(case side3=>repeat (first|exact (zM HO490.out).2.2|(with_reducible refine zQ ?_ _)|(with_reducible refine zR ?_ _)|(with_reducible refine zS ?_)));(case side4=>exact (zM HO490.out).2.1);rintro e w' ⟨rfl,⟨nd,rfl⟩⟩;(try first|exact ⟨rfl,_,zL _ _ _⟩|exact ⟨rfl,_,Eq.trans (zL _ _ _) (congrArg (World.drewN _) (Nat.add_assoc _ _ _))⟩))))
      go_meet
      case rel=>exact ⟨_,((t492 != t484)),(by first|rfl|(simp;done)|(simp [*];done)),H',⟨by have:=HJ9.out;have:=HJ31.out;first|omega|exact Nat.le_refl _⟩,⟨by (with_reducible repeat (first|apply zN|apply zO|apply zP));exact Kd.R_mono HO468.out (fun _ hk=>⟨hk.1.1.2,hk.2⟩)⟩,⟨by (with_reducible repeat (first|apply zN|apply zO|apply zP));exact Kd.R_mono HO486.out (fun _ hk=>⟨hk.1.1.1.2,hk.2⟩)⟩,⟨by (with_reducible repeat (first|apply Kd.S_alloc|apply Kd.S_drewN|apply Kd.S_drew));exact Kd.S_mono HO499.out (fun _ hk=>⟨hk.1.1.1.2,⟨hk.1.2,hk.1.1.1.1⟩⟩)⟩,⟨by (with_reducible repeat (first|apply zN|apply zO|apply zP));exact Kd.R_mono HO501.out (fun _ hk=>⟨hk.1.1.1.2,hk.1.2⟩)⟩,⟨by repeat (first|(with_reducible first|exact HB.out|apply zJ|apply zG|apply zH)|exact HB.out)⟩⟩
     case rest => as_aux_lemma =>
      clear HC75
      (try clear c1);(try clear c2);(try clear p2);(try clear c3);(try clear c4);(try clear p4);(try clear q4);(try clear hx4);(try clear qi4);(try clear c5);(try clear c6);(try clear p6);(try clear c9);(try clear c10);(try clear c11);(try clear c15);(try clear c15b0);(try clear c15b1);(try clear c15b2);(try clear c17);(try clear c18);(try clear c18b0);(try clear c18b1);(try clear c18b2);(try clear c21);(try clear c21b0);(try clear c21b1);(try clear c22);(try clear c31);(try clear c33);(try clear c35);(try clear c35b0);(try clear c35b1);(try clear c39);(try clear c41);(try clear c41b0);(try clear c42);(try clear c42b0);(try clear c43);(try clear c43b0);(try clear c44);(try clear c44b0);(try clear c45);(try clear c45b0);(try clear c45b1);(try clear p45);(try clear q45);(try clear hx45);(try clear qi45);(try clear c46);(try clear c46b0);(try clear p46);(try clear q46);(try clear hx46);(try clear qi46);(try clear c47);(try clear c47b0);(try clear c48);(try clear c48b0);(try clear c50);(try clear c50b0);(try clear c51);(try clear c51b0);(try clear c52);(try clear c52b0);(try clear c53);(try clear c54);(try clear c54b0);(try clear c54b1);(try clear c55);(try clear c55b0);(try clear c56);(try clear c56b0);(try clear c57);(try clear c57b0);(try clear c57b1);(try clear c58);(try clear c58b0);(try clear c58b1);(try clear c59);(try clear c59b0);(try clear c60);(try clear c60b0);(try clear c90);(try clear c90b0);(try clear c90b1);(try clear c90b2);(try clear c92);(try clear c93);(try clear c93b0);(try clear c93b1);(try clear c93b2);(try clear c96);(try clear c96b0);(try clear c96b1);(try clear c97);(try clear c97b0);(try clear c97b1);(try clear c97b2);(try clear c101);(try clear c102);(try clear c102b0);(try clear c102b1);(try clear c102b2);(try clear c107);(try clear c107b0);(try clear c107b1);(try clear c108);(try clear c108b0);(try clear c108b1);(try clear c108b2);(try clear c113);(try clear c113b0);(try clear c113b1);(try clear hx454_0);(try clear hx455_0);(try clear hx456_0);(try clear hx457_0);(try clear hx458_0);(try clear hx459_0);(try clear hx460_0);(try clear hx461_0);(try clear p2);(try clear p4);(try clear p45);(try clear p454);(try clear p455);(try clear p456);(try clear p457);(try clear p458);(try clear p459);(try clear p46);(try clear p460);(try clear p461);(try clear p6);(try clear q4);(try clear q45);(try clear q454);(try clear q455);(try clear q456);(try clear q457);(try clear q458);(try clear q459);(try clear q46);(try clear q460);(try clear q461)
      obtain ⟨kq,x359_74,rfl,HA,HJ74,HO_21,HO_35,HO_44,HO_45,HB⟩:=hcut
      cases kq with
      | zero=>exact absurd HA.out (by simp [laws_FnReadersPlan.j4])
      | succ kj74 =>
       have H:=HA.out;clear HA
       simp only [laws_FnReadersPlan.j4] at H
       by_cases c134 : x359_74 = true
       · as_aux_lemma =>
         subst c134
         have H1 : (some false) = some r:=by rw [if_pos rfl] at H;exact H
         clear H;have H:=H1;clear H1
         obtain rfl:=Option.some.inj H
         go_wp2
         repeat (go_quiet (fail);try go_wp2)
         go_ret
         exact ⟨by first|rfl|(simp [errW_none,errW_some] <;> rfl)|(simp [*,errW_none,errW_some] <;> rfl),by repeat (first|(with_reducible first|exact HB.out|apply zJ|apply zG|apply zH)|exact HB.out)⟩
       replace c134:=Bool.eq_false_iff.mpr c134
       subst c134
       have H1 : (if t466 = true then ((laws_xSum.f kj74 t465).bind fun t508=>(if t508 = t462 then (laws_FnReadersPlan.j5 kj74 t463 t464 t465 t473 t474 t475 t476 t477 t480 t481 t482 t483 t484 t491 t495 t496 t497 t502 t503 (decide ((t465.length : Int) < 1))) else (laws_FnReadersPlan.j5 kj74 t463 t464 t465 t473 t474 t475 t476 t477 t480 t481 t482 t483 t484 t491 t495 t496 t497 t502 t503 true))) else (laws_FnReadersPlan.j7 kj74 t473 t474 t475 t476 t477 t480 t481 t482 t483 t484 t491 t495 t496 t497 t502 t503)) = some r:=by rw [if_neg (show ¬ (false = true) by decide)] at H;exact H
       clear H;have H:=H1;clear H1;have HC135:=zI H;clear H
       go_upto_if 360 with (fail)
       repeat (go_quiet (fail);go_upto_if 360 with (fail))
       go_cut [] from 360 to 360 (fun wc=>∃ (kq : Nat),Aside0 (laws_FnReadersPlan.j7 kq t473 t474 t475 t476 t477 t480 t481 t482 t483 t484 t491 t495 t496 t497 t502 t503 = some r) ∧ Aside0 (kq ≤ kj74) ∧ Aside0 (Kd.R (Kd.int .i64) 3 wc w.heap.size (fun k_=>some k_ ≠ ((.slice Ao89 t497.length co89) : Value).ownBlock) v485 t483) ∧ Aside0 (Kd.S (Kd.slice 3 (Kd.int .i64)) 26 wc w.heap.size (fun k_=>some k_ ≠ (v485 : Value).ownBlock ∧ some k_ ≠ ((.slice Ao89 t497.length co89) : Value).ownBlock) (.slice Ao88 t496.length co88) t496) ∧ Aside0 (Kd.R (Kd.int .i64) 3 wc w.heap.size (fun k_=>some k_ ≠ (v485 : Value).ownBlock) (.slice Ao89 t497.length co89) t497) ∧ Aside0 (Below w.heap.size w wc))
       case first => as_aux_lemma =>
        have H:=HC135.out;clear HC135
        by_cases c136 : t466 = true
        rotate_left
        · as_aux_lemma =>
          replace c136:=Bool.eq_false_iff.mpr c136
          subst c136
          have H1 : (laws_FnReadersPlan.j7 kj74 t473 t474 t475 t476 t477 t480 t481 t482 t483 t484 t491 t495 t496 t497 t502 t503) = some r:=by rw [if_neg (show ¬ (false = true) by decide)] at H;exact H
          clear H;have H:=H1;clear H1;have H':=zI H;clear H
          go_wp2
          repeat (go_quiet (fail);try go_wp2)
          go_meet
          case rel=>exact ⟨_,H',⟨by have:=HJ9.out;have:=HJ31.out;have:=HJ74.out;first|omega|exact Nat.le_refl _⟩,⟨by (with_reducible repeat (first|apply zN|apply zO|apply zP));exact Kd.R_mono HO_35.out (fun _ hk=>hk.2)⟩,⟨by (with_reducible repeat (first|apply Kd.S_alloc|apply Kd.S_drewN|apply Kd.S_drew));exact Kd.S_mono HO_44.out (fun _ hk=>⟨hk.2.1,hk.2.2⟩)⟩,⟨by (with_reducible repeat (first|apply zN|apply zO|apply zP));exact Kd.R_mono HO_45.out (fun _ hk=>hk.2)⟩,⟨by repeat (first|(with_reducible first|exact HB.out|apply zJ|apply zG|apply zH)|exact HB.out)⟩⟩
        subst c136
        have H1 : ((laws_xSum.f kj74 t465).bind fun t508=>(if t508 = t462 then (laws_FnReadersPlan.j5 kj74 t463 t464 t465 t473 t474 t475 t476 t477 t480 t481 t482 t483 t484 t491 t495 t496 t497 t502 t503 (decide ((t465.length : Int) < 1))) else (laws_FnReadersPlan.j5 kj74 t463 t464 t465 t473 t474 t475 t476 t477 t480 t481 t482 t483 t484 t491 t495 t496 t497 t502 t503 true))) = some r:=by rw [if_pos rfl] at H;exact H
        clear H;have H:=H1;clear H1;have HC137:=zI H;clear H
        go_upto_region 38 with (fail)
        repeat (go_quiet (fail);go_upto_region 38 with (fail))
        go_cut [369] from 361 to 369 (fun v369 wc=>∃ (kq : Nat) (x369_136 : Bool),v369 = .bool x369_136 ∧ Aside0 (laws_FnReadersPlan.j5 kq t463 t464 t465 t473 t474 t475 t476 t477 t480 t481 t482 t483 t484 t491 t495 t496 t497 t502 t503 x369_136 = some r) ∧ Aside0 (kq ≤ kj74) ∧ Aside0 (Kd.R (Kd.int .i64) 3 wc w.heap.size (fun k_=>some k_ ≠ (v485 : Value).ownBlock ∧ some k_ ≠ ((.slice Ao89 t497.length co89) : Value).ownBlock) v467 t465) ∧ Aside0 (Kd.R (Kd.int .i64) 3 wc w.heap.size (fun k_=>some k_ ≠ (v467 : Value).ownBlock ∧ some k_ ≠ ((.slice Ao89 t497.length co89) : Value).ownBlock) v485 t483) ∧ Aside0 (Kd.S (Kd.slice 3 (Kd.int .i64)) 26 wc w.heap.size (fun k_=>some k_ ≠ (v467 : Value).ownBlock ∧ some k_ ≠ (v485 : Value).ownBlock ∧ some k_ ≠ ((.slice Ao89 t497.length co89) : Value).ownBlock) (.slice Ao88 t496.length co88) t496) ∧ Aside0 (Kd.R (Kd.int .i64) 3 wc w.heap.size (fun k_=>some k_ ≠ (v467 : Value).ownBlock ∧ some k_ ≠ (v485 : Value).ownBlock) (.slice Ao89 t497.length co89) t497) ∧ Aside0 (Below w.heap.size w wc))
        case first => as_aux_lemma =>
         have H:=HC137.out;clear HC137;replace H:=Option.bind_eq_some_iff.mp H
         obtain ⟨t508,A1380,H⟩:=H
         (try dsimp only at H);have A138:=zI A1380;clear A1380
         by_cases c139 : t508 = t462
         rotate_left
         · as_aux_lemma =>
           rw [if_neg c139] at H
           have c139b0 : (t508 == t462) = false:=beq_eq_false_iff_ne.mpr c139
           have c139b1 : (t508 != t462) = true:=bne_iff_ne.mpr c139
           (first|rw [c139b0]|(simp only [i64_w,i32_w];rw [c139b0])|skip)
           have H':=zI H;clear H
           obtain ⟨Ao141,co141,eo141⟩:=Kd.R_slice HO_21.out
           subst eo141
           go_wp2_with (first|(go_at_call 11;(with_reducible refine (laws_xSum.calls kj74 _ _ t465 t508 _ ?side1 ?side2 A138.out).mono ?_);(case side1=>repeat (first|exact (zM HO_21.out).2.2|(with_reducible refine zQ ?_ _)|(with_reducible refine zR ?_ _)|(with_reducible refine zS ?_)));(case side2=>exact (zM HO_21.out).2.1);rintro e w' ⟨rfl,⟨nd,rfl⟩⟩;(try first|exact ⟨rfl,_,zL _ _ _⟩|exact ⟨rfl,_,Eq.trans (zL _ _ _) (congrArg (World.drewN _) (Nat.add_assoc _ _ _))⟩)))
           repeat (go_quiet (first|(go_at_call 11;(with_reducible refine (laws_xSum.calls kj74 _ _ t465 t508 _ ?side1 ?side2 A138.out).mono ?_);(case side1=>repeat (first|exact (zM HO_21.out).2.2|(with_reducible refine zQ ?_ _)|(with_reducible refine zR ?_ _)|(with_reducible refine zS ?_)));(case side2=>exact (zM HO_21.out).2.1);rintro e w' ⟨rfl,⟨nd,rfl⟩⟩;(try first|exact ⟨rfl,_,zL _ _ _⟩|exact ⟨rfl,_,Eq.trans (zL _ _ _) (congrArg (World.drewN _) (Nat.add_assoc _ _ _))⟩)));try go_wp2_with (first|(go_at_call 11;(with_reducible refine (laws_xSum.calls kj74 _ _ t465 t508 _ ?side1 ?side2 A138.out).mono ?_);(case side1=>repeat (first|exact (zM HO_21.out).2.2|(with_reducible refine zQ ?_ _)|(with_reducible refine zR ?_ _)|(with_reducible refine zS ?_)));(case side2=>exact (zM HO_21.out).2.1);rintro e w' ⟨rfl,⟨nd,rfl⟩⟩;(try first|exact ⟨rfl,_,zL _ _ _⟩|exact ⟨rfl,_,Eq.trans (zL _ _ _) (congrArg (World.drewN _) (Nat.add_assoc _ _ _))⟩))))
           go_meet
           case rel=>exact ⟨_,(true),(by first|rfl|(simp;done)|(simp [*];done)),H',⟨by have:=HJ9.out;have:=HJ31.out;have:=HJ74.out;first|omega|exact Nat.le_refl _⟩,⟨by (with_reducible repeat (first|apply zN|apply zO|apply zP));exact HO_21.out⟩,⟨by (with_reducible repeat (first|apply zN|apply zO|apply zP));exact HO_35.out⟩,⟨by (with_reducible repeat (first|apply Kd.S_alloc|apply Kd.S_drewN|apply Kd.S_drew));exact HO_44.out⟩,⟨by (with_reducible repeat (first|apply zN|apply zO|apply zP));exact HO_45.out⟩,⟨by repeat (first|(with_reducible first|exact HB.out|apply zJ|apply zG|apply zH)|exact HB.out)⟩⟩
         rw [if_pos c139] at H
         have c139b0 : (t508 == t462) = true:=beq_iff_eq.mpr c139
         have c139b1 : (t508 != t462) = false:=bne_eq_false_iff_eq.mpr c139
         clear c139
         (first|rw [c139b0]|(simp only [i64_w,i32_w];rw [c139b0])|skip)
         have H':=zI H;clear H
         obtain ⟨Ao140,co140,eo140⟩:=Kd.R_slice HO_21.out
         subst eo140
         go_wp2_with (first|(go_at_call 11;(with_reducible refine (laws_xSum.calls kj74 _ _ t465 t508 _ ?side1 ?side2 A138.out).mono ?_);(case side1=>repeat (first|exact (zM HO_21.out).2.2|(with_reducible refine zQ ?_ _)|(with_reducible refine zR ?_ _)|(with_reducible refine zS ?_)));(case side2=>exact (zM HO_21.out).2.1);rintro e w' ⟨rfl,⟨nd,rfl⟩⟩;(try first|exact ⟨rfl,_,zL _ _ _⟩|exact ⟨rfl,_,Eq.trans (zL _ _ _) (congrArg (World.drewN _) (Nat.add_assoc _ _ _))⟩)))
         repeat (go_quiet (first|(go_at_call 11;(with_reducible refine (laws_xSum.calls kj74 _ _ t465 t508 _ ?side1 ?side2 A138.out).mono ?_);(case side1=>repeat (first|exact (zM HO_21.out).2.2|(with_reducible refine zQ ?_ _)|(with_reducible refine zR ?_ _)|(with_reducible refine zS ?_)));(case side2=>exact (zM HO_21.out).2.1);rintro e w' ⟨rfl,⟨nd,rfl⟩⟩;(try first|exact ⟨rfl,_,zL _ _ _⟩|exact ⟨rfl,_,Eq.trans (zL _ _ _) (congrArg (World.drewN _) (Nat.add_assoc _ _ _))⟩)));try go_wp2_with (first|(go_at_call 11;(with_reducible refine (laws_xSum.calls kj74 _ _ t465 t508 _ ?side1 ?side2 A138.out).mono ?_);(case side1=>repeat (first|exact (zM HO_21.out).2.2|(with_reducible refine zQ ?_ _)|(with_reducible refine zR ?_ _)|(with_reducible refine zS ?_)));(case side2=>exact (zM HO_21.out).2.1);rintro e w' ⟨rfl,⟨nd,rfl⟩⟩;(try first|exact ⟨rfl,_,zL _ _ _⟩|exact ⟨rfl,_,Eq.trans (zL _ _ _) (congrArg (World.drewN _) (Nat.add_assoc _ _ _))⟩))))
         go_meet
         case rel=>exact ⟨_,(decide ((t465.length : Int) < 1)),(by first|rfl|(simp;done)|(simp [*];done)),H',⟨by have:=HJ9.out;have:=HJ31.out;have:=HJ74.out;first|omega|exact Nat.le_refl _⟩,⟨by (with_reducible repeat (first|apply zN|apply zO|apply zP));exact HO_21.out⟩,⟨by (with_reducible repeat (first|apply zN|apply zO|apply zP));exact HO_35.out⟩,⟨by (with_reducible repeat (first|apply Kd.S_alloc|apply Kd.S_drewN|apply Kd.S_drew));exact HO_44.out⟩,⟨by (with_reducible repeat (first|apply zN|apply zO|apply zP));exact HO_45.out⟩,⟨by repeat (first|(with_reducible first|exact HB.out|apply zJ|apply zG|apply zH)|exact HB.out)⟩⟩
        case rest => as_aux_lemma =>
         clear HC137
         (try clear c1);(try clear c2);(try clear p2);(try clear c3);(try clear c4);(try clear p4);(try clear q4);(try clear hx4);(try clear qi4);(try clear c5);(try clear c6);(try clear p6);(try clear c9);(try clear c10);(try clear c11);(try clear c13);(try clear c15);(try clear c15b0);(try clear c15b1);(try clear c15b2);(try clear c17);(try clear c18);(try clear c18b0);(try clear c18b1);(try clear c18b2);(try clear c21);(try clear c21b0);(try clear c21b1);(try clear c22);(try clear c31);(try clear c33);(try clear c35);(try clear c35b0);(try clear c35b1);(try clear c39);(try clear c41);(try clear c41b0);(try clear c42);(try clear c42b0);(try clear c43);(try clear c43b0);(try clear c44);(try clear c44b0);(try clear c45);(try clear c45b0);(try clear c45b1);(try clear p45);(try clear q45);(try clear hx45);(try clear qi45);(try clear c46);(try clear c46b0);(try clear p46);(try clear q46);(try clear hx46);(try clear qi46);(try clear c47);(try clear c47b0);(try clear c48);(try clear c48b0);(try clear c50);(try clear c50b0);(try clear c51);(try clear c51b0);(try clear c52);(try clear c52b0);(try clear c53);(try clear c54);(try clear c54b0);(try clear c54b1);(try clear c55);(try clear c55b0);(try clear c56);(try clear c56b0);(try clear c57);(try clear c57b0);(try clear c57b1);(try clear c58);(try clear c58b0);(try clear c58b1);(try clear c59);(try clear c59b0);(try clear c60);(try clear c60b0);(try clear c90);(try clear c90b0);(try clear c90b1);(try clear c90b2);(try clear c92);(try clear c93);(try clear c93b0);(try clear c93b1);(try clear c93b2);(try clear c96);(try clear c96b0);(try clear c96b1);(try clear c97);(try clear c97b0);(try clear c97b1);(try clear c97b2);(try clear c101);(try clear c102);(try clear c102b0);(try clear c102b1);(try clear c102b2);(try clear c107);(try clear c107b0);(try clear c107b1);(try clear c108);(try clear c108b0);(try clear c108b1);(try clear c108b2);(try clear c113);(try clear c113b0);(try clear c113b1);(try clear c134);(try clear c136);(try clear c139);(try clear c139b0);(try clear c139b1);(try clear hx454_0);(try clear hx455_0);(try clear hx456_0);(try clear hx457_0);(try clear hx458_0);(try clear hx459_0);(try clear hx460_0);(try clear hx461_0);(try clear p2);(try clear p4);(try clear p45);(try clear p454);(try clear p455);(try clear p456);(try clear p457);(try clear p458);(try clear p459);(try clear p46);(try clear p460);(try clear p461);(try clear p6);(try clear q4);(try clear q45);(try clear q454);(try clear q455);(try clear q456);(try clear q457);(try clear q458);(try clear q459);(try clear q46);(try clear q460);(try clear q461)
         obtain ⟨kq,x369_136,rfl,HA,HJ136,HO_21,HO_35,HO_44,HO_45,HB⟩:=hcut
         cases kq with
         | zero=>exact absurd HA.out (by simp [laws_FnReadersPlan.j5])
         | succ kj136 =>
          have H:=HA.out;clear HA
          simp only [laws_FnReadersPlan.j5] at H
          by_cases c142 : x369_136 = true
          · as_aux_lemma =>
            subst c142
            have H1 : (some false) = some r:=by rw [if_pos rfl] at H;exact H
            clear H;have H:=H1;clear H1
            obtain rfl:=Option.some.inj H
            go_wp2
            repeat (go_quiet (fail);try go_wp2)
            go_ret
            exact ⟨by first|rfl|(simp [errW_none,errW_some] <;> rfl)|(simp [*,errW_none,errW_some] <;> rfl),by repeat (first|(with_reducible first|exact HB.out|apply zJ|apply zG|apply zH)|exact HB.out)⟩
          replace c142:=Bool.eq_false_iff.mpr c142
          subst c142
          have H1 : (laws_FnReadersPlan.l1 kj136 t463 t464 t465 t473 t474 t475 t476 t477 t480 t481 t482 t483 t484 t491 t495 t496 t497 t502 t503 t465 (t465.length : Int) 0) = some r:=by rw [if_neg (show ¬ (false = true) by decide)] at H;exact H
          clear H;have H:=H1;clear H1;have H':=zI H;clear H
          obtain ⟨Ao143,co143,eo143⟩:=Kd.R_slice HO_21.out
          subst eo143
          go_wp2
          repeat (go_quiet (fail);try go_wp2)
          go_loopg [372] kj136 (fun kq v372 w'=>∃ (x372_5 : Int),v372 = .int .i64 x372_5 ∧ Aside0 (laws_FnReadersPlan.l1 kq t463 t464 t465 t473 t474 t475 t476 t477 t480 t481 t482 t483 t484 t491 t495 t496 t497 t502 t503 t465 (t465.length : Int) x372_5 = some r) ∧ Aside0 (kq ≤ kj136) ∧ Aside0 (Kd.R (Kd.int .i64) 3 w' w.heap.size (fun k_=>some k_ ≠ (v485 : Value).ownBlock ∧ some k_ ≠ ((.slice Ao89 t497.length co89) : Value).ownBlock) (.slice Ao143 t465.length co143) t465) ∧ Aside0 (Kd.R (Kd.int .i64) 3 w' w.heap.size (fun k_=>some k_ ≠ ((.slice Ao143 t465.length co143) : Value).ownBlock ∧ some k_ ≠ ((.slice Ao89 t497.length co89) : Value).ownBlock ∧ some k_ ≠ ((.slice Ao143 t465.length co143) : Value).ownBlock) v485 t483) ∧ Aside0 (Kd.S (Kd.slice 3 (Kd.int .i64)) 26 w' w.heap.size (fun k_=>some k_ ≠ ((.slice Ao143 t465.length co143) : Value).ownBlock ∧ some k_ ≠ (v485 : Value).ownBlock ∧ some k_ ≠ ((.slice Ao89 t497.length co89) : Value).ownBlock ∧ some k_ ≠ ((.slice Ao143 t465.length co143) : Value).ownBlock) (.slice Ao88 t496.length co88) t496) ∧ Aside0 (Kd.R (Kd.int .i64) 3 w' w.heap.size (fun k_=>some k_ ≠ ((.slice Ao143 t465.length co143) : Value).ownBlock ∧ some k_ ≠ (v485 : Value).ownBlock ∧ some k_ ≠ ((.slice Ao143 t465.length co143) : Value).ownBlock) (.slice Ao89 t497.length co89) t497) ∧ Aside0 (Kd.R (Kd.int .i64) 3 w' w.heap.size (fun k_=>some k_ ≠ (v485 : Value).ownBlock ∧ some k_ ≠ ((.slice Ao89 t497.length co89) : Value).ownBlock) (.slice Ao143 t465.length co143) t465) ∧ Aside0 (Below w.heap.size w w'))
          case atStart=>exact ⟨(0),(by first|rfl|(simp;done)|(simp [*];done)),H',⟨Nat.le_refl _⟩,⟨by (with_reducible repeat (first|apply zN|apply zO|apply zP));exact HO_21.out⟩,⟨by (with_reducible repeat (first|apply zN|apply zO|apply zP));exact Kd.R_mono HO_35.out (fun _ hk=>⟨hk.1,⟨hk.2,hk.1⟩⟩)⟩,⟨by (with_reducible repeat (first|apply Kd.S_alloc|apply Kd.S_drewN|apply Kd.S_drew));exact Kd.S_mono HO_44.out (fun _ hk=>⟨hk.1,⟨hk.2.1,⟨hk.2.2,hk.1⟩⟩⟩)⟩,⟨by (with_reducible repeat (first|apply zN|apply zO|apply zP));exact Kd.R_mono HO_45.out (fun _ hk=>⟨hk.1,⟨hk.2,hk.1⟩⟩)⟩,⟨by (with_reducible repeat (first|apply zN|apply zO|apply zP));exact HO_21.out⟩,⟨by repeat (first|(with_reducible first|exact HB.out|apply zJ|apply zG|apply zH)|exact HB.out)⟩⟩
          case round =>
           clear H'
           (try clear c1);(try clear c2);(try clear p2);(try clear c3);(try clear c4);(try clear p4);(try clear q4);(try clear hx4);(try clear qi4);(try clear c5);(try clear c6);(try clear p6);(try clear c9);(try clear c10);(try clear c11);(try clear c13);(try clear c14);(try clear c15);(try clear c15b0);(try clear c15b1);(try clear c15b2);(try clear c17);(try clear c18);(try clear c18b0);(try clear c18b1);(try clear c18b2);(try clear c21);(try clear c21b0);(try clear c21b1);(try clear c22);(try clear c31);(try clear c33);(try clear c35);(try clear c35b0);(try clear c35b1);(try clear c39);(try clear c41);(try clear c41b0);(try clear c42);(try clear c42b0);(try clear c43);(try clear c43b0);(try clear c44);(try clear c44b0);(try clear c45);(try clear c45b0);(try clear c45b1);(try clear p45);(try clear q45);(try clear hx45);(try clear qi45);(try clear c46);(try clear c46b0);(try clear p46);(try clear q46);(try clear hx46);(try clear qi46);(try clear c47);(try clear c47b0);(try clear c48);(try clear c48b0);(try clear c50);(try clear c50b0);(try clear c51);(try clear c51b0);(try clear c52);(try clear c52b0);(try clear c53);(try clear c54);(try clear c54b0);(try clear c54b1);(try clear c55);(try clear c55b0);(try clear c56);(try clear c56b0);(try clear c57);(try clear c57b0);(try clear c57b1);(try clear c58);(try clear c58b0);(try clear c58b1);(try clear c59);(try clear c59b0);(try clear c60);(try clear c60b0);(try clear c90);(try clear c90b0);(try clear c90b1);(try clear c90b2);(try clear c92);(try clear c93);(try clear c93b0);(try clear c93b1);(try clear c93b2);(try clear c96);(try clear c96b0);(try clear c96b1);(try clear c97);(try clear c97b0);(try clear c97b1);(try clear c97b2);(try clear c101);(try clear c102);(try clear c102b0);(try clear c102b1);(try clear c102b2);(try clear c107);(try clear c107b0);(try clear c107b1);(try clear c108);(try clear c108b0);(try clear c108b1);(try clear c108b2);(try clear c113);(try clear c113b0);(try clear c113b1);(try clear c134);(try clear c136);(try clear c139);(try clear c139b0);(try clear c139b1);(try clear c142);(try clear hx454_0);(try clear hx455_0);(try clear hx456_0);(try clear hx457_0);(try clear hx458_0);(try clear hx459_0);(try clear hx460_0);(try clear hx461_0);(try clear p2);(try clear p4);(try clear p45);(try clear p454);(try clear p455);(try clear p456);(try clear p457);(try clear p458);(try clear p459);(try clear p46);(try clear p460);(try clear p461);(try clear p6);(try clear q4);(try clear q45);(try clear q454);(try clear q455);(try clear q456);(try clear q457);(try clear q458);(try clear q459);(try clear q46);(try clear q460);(try clear q461)
           obtain ⟨x372_5,rfl,HA,HK5,HO_21,HO_35,HO_44,HO_45,HO_370,HB⟩:=hrel
           cases gk with
           | zero=>exact absurd HA.out (by simp [laws_FnReadersPlan.l1])
           | succ k5 =>
            have H:=HA.out;clear HA
            simp only [laws_FnReadersPlan.l1] at H
            by_cases c144 : x372_5 < (t465.length : Int)
            rotate_left
            · as_aux_lemma =>
              rw [if_neg c144] at H
              have c144b0 : decide (x372_5 < (t465.length : Int)) = false:=decide_eq_false c144
              clear c144;have H':=zI H;clear H
              go_wp2
              repeat (go_quiet (fail);try go_wp2)
              go_meet
              case rel=>exact ⟨_,H',⟨by have:=HJ9.out;have:=HJ31.out;have:=HJ74.out;have:=HJ136.out;have:=HK5.out;first|omega|exact Nat.le_refl _⟩,⟨by (with_reducible repeat (first|apply zN|apply zO|apply zP));exact Kd.R_mono HO_35.out (fun _ hk=>hk.2.1)⟩,⟨by (with_reducible repeat (first|apply Kd.S_alloc|apply Kd.S_drewN|apply Kd.S_drew));exact Kd.S_mono HO_44.out (fun _ hk=>⟨hk.2.1,hk.2.2.1⟩)⟩,⟨by (with_reducible repeat (first|apply zN|apply zO|apply zP));exact Kd.R_mono HO_45.out (fun _ hk=>hk.2.1)⟩,⟨by repeat (first|(with_reducible first|exact HB.out|apply zJ|apply zG|apply zH)|exact HB.out)⟩⟩
            rw [if_pos c144] at H
            have c144b0 : decide (x372_5 < (t465.length : Int)) = true:=decide_eq_true c144
            clear c144
            by_cases c145 : 0 ≤ x372_5
            rotate_left
            · rw [if_neg c145] at H
              exact absurd H (by simp)
            rw [if_pos c145] at H
            have c145b0 : decide (0 ≤ x372_5) = true:=decide_eq_true c145
            clear c145
            by_cases c146 : x372_5 < (t465.length : Int)
            rotate_left
            · rw [if_neg c146] at H
              exact absurd H (by simp)
            rw [if_pos c146] at H
            have c146b0 : decide (x372_5 < (t465.length : Int)) = true:=decide_eq_true c146
            clear c146
            by_cases c147 : x372_5 < (wrap64 ((t465.length : Int) - 1))
            rotate_left
            · as_aux_lemma =>
              rw [if_neg c147] at H
              have c147b0 : decide (x372_5 < (wrap64 ((t465.length : Int) - 1))) = false:=decide_eq_false c147
              clear c147
              by_cases c151 : (rd t465 x372_5) < 1
              · as_aux_lemma =>
                rw [if_pos c151] at H
                have c151b0 : decide ((rd t465 x372_5) < 1) = true:=decide_eq_true c151
                clear c151
                obtain rfl:=Option.some.inj H
                have p509 : 0 ≤ (x372_5 : Int):=of_decide_eq_true (by first|(with_reducible assumption)|assumption)
                have q509 : x372_5 < (t465.length : Int):=of_decide_eq_true (by first|(with_reducible assumption)|assumption)
                obtain ⟨ad509,e509,hx509_0⟩:=Kd.at_int (zM HO_370.out).2.2 x372_5 p509 q509
                cases e509
                replace p509:=eq_true p509
                replace q509:=eq_true q509
                go_wp2
                repeat (go_quiet (fail);try go_wp2)
                go_ret
                exact ⟨by first|rfl|(simp [errW_none,errW_some] <;> rfl)|(simp [*,errW_none,errW_some] <;> rfl),by repeat (first|(with_reducible first|exact HB.out|apply zJ|apply zG|apply zH)|exact HB.out)⟩
              rw [if_neg c151] at H
              have c151b0 : decide ((rd t465 x372_5) < 1) = false:=decide_eq_false c151
              clear c151
              by_cases c152 : (rd t465 x372_5) > (wrap64 (t463 + (wrap64 (x372_5 * t464))))
              · as_aux_lemma =>
                rw [if_pos c152] at H
                have c152b0 : decide ((wrap64 (t463 + (wrap64 (x372_5 * t464)))) < (rd t465 x372_5)) = true:=decide_eq_true c152
                clear c152
                obtain rfl:=Option.some.inj H
                have p509 : 0 ≤ (x372_5 : Int):=of_decide_eq_true (by first|(with_reducible assumption)|assumption)
                have q509 : x372_5 < (t465.length : Int):=of_decide_eq_true (by first|(with_reducible assumption)|assumption)
                obtain ⟨ad509,e509,hx509_0⟩:=Kd.at_int (zM HO_370.out).2.2 x372_5 p509 q509
                cases e509
                replace p509:=eq_true p509
                replace q509:=eq_true q509
                go_wp2
                repeat (go_quiet (fail);try go_wp2)
                go_ret
                exact ⟨by first|rfl|(simp [errW_none,errW_some] <;> rfl)|(simp [*,errW_none,errW_some] <;> rfl),by repeat (first|(with_reducible first|exact HB.out|apply zJ|apply zG|apply zH)|exact HB.out)⟩
              rw [if_neg c152] at H
              have c152b0 : decide ((wrap64 (t463 + (wrap64 (x372_5 * t464)))) < (rd t465 x372_5)) = false:=decide_eq_false c152
              clear c152;have H':=zI H;clear H
              have p509 : 0 ≤ (x372_5 : Int):=of_decide_eq_true (by first|(with_reducible assumption)|assumption)
              have q509 : x372_5 < (t465.length : Int):=of_decide_eq_true (by first|(with_reducible assumption)|assumption)
              obtain ⟨ad509,e509,hx509_0⟩:=Kd.at_int (zM HO_370.out).2.2 x372_5 p509 q509
              cases e509
              replace p509:=eq_true p509
              replace q509:=eq_true q509
              go_wp2
              repeat (go_quiet (fail);try go_wp2)
              go_roundg k5
              case measure=>have:=HJ9.out;have:=HJ31.out;have:=HJ74.out;have:=HJ136.out;have:=HK5.out;omega
              case rel=>exact ⟨(wrap64 (x372_5 + 1)),(by first|rfl|(simp;done)|(simp [*];done)),H',⟨by have:=HJ9.out;have:=HJ31.out;have:=HJ74.out;have:=HJ136.out;have:=HK5.out;omega⟩,⟨by (with_reducible repeat (first|apply zN|apply zO|apply zP));exact HO_21.out⟩,⟨by (with_reducible repeat (first|apply zN|apply zO|apply zP));exact HO_35.out⟩,⟨by (with_reducible repeat (first|apply Kd.S_alloc|apply Kd.S_drewN|apply Kd.S_drew));exact HO_44.out⟩,⟨by (with_reducible repeat (first|apply zN|apply zO|apply zP));exact HO_45.out⟩,⟨by (with_reducible repeat (first|apply zN|apply zO|apply zP));exact HO_370.out⟩,⟨by repeat (first|(with_reducible first|exact HB.out|apply zJ|apply zG|apply zH)|exact HB.out)⟩⟩
            rw [if_pos c147] at H
            have c147b0 : decide (x372_5 < (wrap64 ((t465.length : Int) - 1))) = true:=decide_eq_true c147
            clear c147
            by_cases c148 : (rd t465 x372_5) = (wrap64 (t463 + (wrap64 (x372_5 * t464))))
            rotate_left
            · as_aux_lemma =>
              rw [if_neg c148] at H
              have c148b0 : ((rd t465 x372_5) == (wrap64 (t463 + (wrap64 (x372_5 * t464))))) = false:=beq_eq_false_iff_ne.mpr c148
              have c148b1 : ((rd t465 x372_5) != (wrap64 (t463 + (wrap64 (x372_5 * t464))))) = true:=bne_iff_ne.mpr c148
              obtain rfl:=Option.some.inj H
              have p509 : 0 ≤ (x372_5 : Int):=of_decide_eq_true (by first|(with_reducible assumption)|assumption)
              have q509 : x372_5 < (t465.length : Int):=of_decide_eq_true (by first|(with_reducible assumption)|assumption)
              obtain ⟨ad509,e509,hx509_0⟩:=Kd.at_int (zM HO_370.out).2.2 x372_5 p509 q509
              cases e509
              replace p509:=eq_true p509
              replace q509:=eq_true q509
              go_wp2
              repeat (go_quiet (fail);try go_wp2)
              go_ret
              exact ⟨by first|rfl|(simp [errW_none,errW_some] <;> rfl)|(simp [*,errW_none,errW_some] <;> rfl),by repeat (first|(with_reducible first|exact HB.out|apply zJ|apply zG|apply zH)|exact HB.out)⟩
            rw [if_pos c148] at H
            have c148b0 : ((rd t465 x372_5) == (wrap64 (t463 + (wrap64 (x372_5 * t464))))) = true:=beq_iff_eq.mpr c148
            have c148b1 : ((rd t465 x372_5) != (wrap64 (t463 + (wrap64 (x372_5 * t464))))) = false:=bne_eq_false_iff_eq.mpr c148
            clear c148
            by_cases c149 : (rd t465 x372_5) < 1
            · as_aux_lemma =>
              rw [if_pos c149] at H
              have c149b0 : decide ((rd t465 x372_5) < 1) = true:=decide_eq_true c149
              clear c149
              obtain rfl:=Option.some.inj H
              have p509 : 0 ≤ (x372_5 : Int):=of_decide_eq_true (by first|(with_reducible assumption)|assumption)
              have q509 : x372_5 < (t465.length : Int):=of_decide_eq_true (by first|(with_reducible assumption)|assumption)
              obtain ⟨ad509,e509,hx509_0⟩:=Kd.at_int (zM HO_370.out).2.2 x372_5 p509 q509
              cases e509
              replace p509:=eq_true p509
              replace q509:=eq_true q509
              go_wp2
              repeat (go_quiet (fail);try go_wp2)
              go_ret
              exact ⟨by first|rfl|(simp [errW_none,errW_some] <;> rfl)|(simp [*,errW_none,errW_some] <;> rfl),by repeat (first|(with_reducible first|exact HB.out|apply zJ|apply zG|apply zH)|exact HB.out)⟩
            rw [if_neg c149] at H
            have c149b0 : decide ((rd t465 x372_5) < 1) = false:=decide_eq_false c149
            clear c149
            by_cases c150 : (rd t465 x372_5) > (wrap64 (t463 + (wrap64 (x372_5 * t464))))
            · as_aux_lemma =>
              rw [if_pos c150] at H
              have c150b0 : decide ((wrap64 (t463 + (wrap64 (x372_5 * t464)))) < (rd t465 x372_5)) = true:=decide_eq_true c150
              clear c150
              obtain rfl:=Option.some.inj H
              have p509 : 0 ≤ (x372_5 : Int):=of_decide_eq_true (by first|(with_reducible assumption)|assumption)
              have q509 : x372_5 < (t465.length : Int):=of_decide_eq_true (by first|(with_reducible assumption)|assumption)
              obtain ⟨ad509,e509,hx509_0⟩:=Kd.at_int (zM HO_370.out).2.2 x372_5 p509 q509
              cases e509
              replace p509:=eq_true p509
              replace q509:=eq_true q509
              go_wp2
              repeat (go_quiet (fail);try go_wp2)
              go_ret
              exact ⟨by first|rfl|(simp [errW_none,errW_some] <;> rfl)|(simp [*,errW_none,errW_some] <;> rfl),by repeat (first|(with_reducible first|exact HB.out|apply zJ|apply zG|apply zH)|exact HB.out)⟩
            rw [if_neg c150] at H
            have c150b0 : decide ((wrap64 (t463 + (wrap64 (x372_5 * t464)))) < (rd t465 x372_5)) = false:=decide_eq_false c150
            clear c150;have H':=zI H;clear H
            have p509 : 0 ≤ (x372_5 : Int):=of_decide_eq_true (by first|(with_reducible assumption)|assumption)
            have q509 : x372_5 < (t465.length : Int):=of_decide_eq_true (by first|(with_reducible assumption)|assumption)
            obtain ⟨ad509,e509,hx509_0⟩:=Kd.at_int (zM HO_370.out).2.2 x372_5 p509 q509
            cases e509
            replace p509:=eq_true p509
            replace q509:=eq_true q509
            go_wp2
            repeat (go_quiet (fail);try go_wp2)
            go_roundg k5
            case measure=>have:=HJ9.out;have:=HJ31.out;have:=HJ74.out;have:=HJ136.out;have:=HK5.out;omega
            case rel=>exact ⟨(wrap64 (x372_5 + 1)),(by first|rfl|(simp;done)|(simp [*];done)),H',⟨by have:=HJ9.out;have:=HJ31.out;have:=HJ74.out;have:=HJ136.out;have:=HK5.out;omega⟩,⟨by (with_reducible repeat (first|apply zN|apply zO|apply zP));exact HO_21.out⟩,⟨by (with_reducible repeat (first|apply zN|apply zO|apply zP));exact HO_35.out⟩,⟨by (with_reducible repeat (first|apply Kd.S_alloc|apply Kd.S_drewN|apply Kd.S_drew));exact HO_44.out⟩,⟨by (with_reducible repeat (first|apply zN|apply zO|apply zP));exact HO_45.out⟩,⟨by (with_reducible repeat (first|apply zN|apply zO|apply zP));exact HO_370.out⟩,⟨by repeat (first|(with_reducible first|exact HB.out|apply zJ|apply zG|apply zH)|exact HB.out)⟩⟩
       case rest => as_aux_lemma =>
        clear HC135
        (try clear c1);(try clear c2);(try clear p2);(try clear c3);(try clear c4);(try clear p4);(try clear q4);(try clear hx4);(try clear qi4);(try clear c5);(try clear p5);(try clear q5);(try clear hx5);(try clear c6);(try clear p6);(try clear c9);(try clear c10);(try clear c11);(try clear c13);(try clear c14);(try clear c15);(try clear c15b0);(try clear c15b1);(try clear c15b2);(try clear c17);(try clear c18);(try clear c18b0);(try clear c18b1);(try clear c18b2);(try clear c21);(try clear c21b0);(try clear c21b1);(try clear c22);(try clear c31);(try clear c33);(try clear c35);(try clear c35b0);(try clear c35b1);(try clear c39);(try clear c41);(try clear c41b0);(try clear c42);(try clear c42b0);(try clear c43);(try clear c43b0);(try clear c44);(try clear c44b0);(try clear c45);(try clear c45b0);(try clear c45b1);(try clear p45);(try clear q45);(try clear hx45);(try clear qi45);(try clear c46);(try clear c46b0);(try clear p46);(try clear q46);(try clear hx46);(try clear qi46);(try clear c47);(try clear c47b0);(try clear c48);(try clear c48b0);(try clear c50);(try clear c50b0);(try clear p50);(try clear q50);(try clear hx50);(try clear c51);(try clear c51b0);(try clear c52);(try clear c52b0);(try clear c53);(try clear c54);(try clear c54b0);(try clear c54b1);(try clear c55);(try clear c55b0);(try clear c56);(try clear c56b0);(try clear c57);(try clear c57b0);(try clear c57b1);(try clear c58);(try clear c58b0);(try clear c58b1);(try clear c59);(try clear c59b0);(try clear c60);(try clear c60b0);(try clear p64);(try clear c90);(try clear c90b0);(try clear c90b1);(try clear c90b2);(try clear c92);(try clear c93);(try clear c93b0);(try clear c93b1);(try clear c93b2);(try clear c96);(try clear c96b0);(try clear c96b1);(try clear c97);(try clear c97b0);(try clear c97b1);(try clear c97b2);(try clear c101);(try clear c102);(try clear c102b0);(try clear c102b1);(try clear c102b2);(try clear c107);(try clear c107b0);(try clear c107b1);(try clear c108);(try clear c108b0);(try clear c108b1);(try clear c108b2);(try clear c113);(try clear c113b0);(try clear c113b1);(try clear c134);(try clear c136);(try clear c139);(try clear c139b0);(try clear c139b1);(try clear c142);(try clear c144);(try clear c144b0);(try clear c145);(try clear c145b0);(try clear c146);(try clear c146b0);(try clear c147);(try clear c147b0);(try clear c148);(try clear c148b0);(try clear c148b1);(try clear c149);(try clear c149b0);(try clear c150);(try clear c150b0);(try clear c151);(try clear c151b0);(try clear c152);(try clear c152b0);(try clear hx454_0);(try clear hx455_0);(try clear hx456_0);(try clear hx457_0);(try clear hx458_0);(try clear hx459_0);(try clear hx460_0);(try clear hx461_0);(try clear hx509_0);(try clear p2);(try clear p4);(try clear p45);(try clear p454);(try clear p455);(try clear p456);(try clear p457);(try clear p458);(try clear p459);(try clear p46);(try clear p460);(try clear p461);(try clear p509);(try clear p6);(try clear q4);(try clear q45);(try clear q454);(try clear q455);(try clear q456);(try clear q457);(try clear q458);(try clear q459);(try clear q46);(try clear q460);(try clear q461);(try clear q509)
        obtain ⟨kq,HA,HJ134,HO_35,HO_44,HO_45,HB⟩:=hcut
        cases kq with
        | zero=>exact absurd HA.out (by simp [laws_FnReadersPlan.j7])
        | succ kj134 =>
         have H:=HA.out;clear HA
         simp only [laws_FnReadersPlan.j7] at H
         have HC153:=zI H;clear H
         go_upto_if 405 with (fail)
         repeat (go_quiet (fail);go_upto_if 405 with (fail))
         go_cut [] from 370 to 405 (fun wc=>∃ (kq : Nat),Aside0 (laws_FnReadersPlan.j9 kq t480 t481 t482 t483 t484 t491 t495 t496 t497 t502 t503 = some r) ∧ Aside0 (kq ≤ kj134) ∧ Aside0 (Kd.R (Kd.int .i64) 3 wc w.heap.size (fun k_=>some k_ ≠ ((.slice Ao89 t497.length co89) : Value).ownBlock) v485 t483) ∧ Aside0 (Kd.S (Kd.slice 3 (Kd.int .i64)) 26 wc w.heap.size (fun k_=>some k_ ≠ (v485 : Value).ownBlock ∧ some k_ ≠ ((.slice Ao89 t497.length co89) : Value).ownBlock) (.slice Ao88 t496.length co88) t496) ∧ Aside0 (Kd.R (Kd.int .i64) 3 wc w.heap.size (fun k_=>some k_ ≠ (v485 : Value).ownBlock) (.slice Ao89 t497.length co89) t497) ∧ Aside0 (Below w.heap.size w wc))
         case first => as_aux_lemma =>
          have H:=HC153.out;clear HC153
          by_cases c154 : t477 = true
          rotate_left
          · as_aux_lemma =>
            replace c154:=Bool.eq_false_iff.mpr c154
            subst c154
            have H1 : (laws_FnReadersPlan.j9 kj134 t480 t481 t482 t483 t484 t491 t495 t496 t497 t502 t503) = some r:=by rw [if_neg (show ¬ (false = true) by decide)] at H;exact H
            clear H;have H:=H1;clear H1;have H':=zI H;clear H
            go_wp2
            repeat (go_quiet (fail);try go_wp2)
            go_meet
            case rel=>exact ⟨_,H',⟨by have:=HJ9.out;have:=HJ31.out;have:=HJ74.out;have:=HJ134.out;first|omega|exact Nat.le_refl _⟩,⟨by (with_reducible repeat (first|apply zN|apply zO|apply zP));exact HO_35.out⟩,⟨by (with_reducible repeat (first|apply Kd.S_alloc|apply Kd.S_drewN|apply Kd.S_drew));exact HO_44.out⟩,⟨by (with_reducible repeat (first|apply zN|apply zO|apply zP));exact HO_45.out⟩,⟨by repeat (first|(with_reducible first|exact HB.out|apply zJ|apply zG|apply zH)|exact HB.out)⟩⟩
          subst c154
          have H1 : ((impl_RisingPlan.f kj134 t473 t476 t475).bind fun bt510=>(if bt510.2 = true then (laws_FnReadersPlan.j8 kj134 t473 t474 t475 t476 t480 t481 t482 t483 t484 t491 t495 t496 t497 t502 t503 (decide ((bt510.1.length : Int) > t474))) else (laws_FnReadersPlan.j8 kj134 t473 t474 t475 t476 t480 t481 t482 t483 t484 t491 t495 t496 t497 t502 t503 true))) = some r:=by rw [if_pos rfl] at H;exact H
          clear H;have H:=H1;clear H1;replace H:=Option.bind_eq_some_iff.mp H
          obtain ⟨⟨t510,t511⟩,A1550,H⟩:=H
          replace H : (if t511 = true then (laws_FnReadersPlan.j8 kj134 t473 t474 t475 t476 t480 t481 t482 t483 t484 t491 t495 t496 t497 t502 t503 (decide ((t510.length : Int) > t474))) else (laws_FnReadersPlan.j8 kj134 t473 t474 t475 t476 t480 t481 t482 t483 t484 t491 t495 t496 t497 t502 t503 true)) = some r:=H
          have A155:=zI A1550;clear A1550;have HC156:=zI H;clear H
          go_upto_region 48 with (first|(go_at_call 13;(with_reducible refine (impl_RisingPlan.calls kj134 t473 t476 t475 t510 t511 _ A155.out).mono ?_);rintro e w157 ⟨v512,rfl,ho0,hb⟩;have n0_:=zI (Kd.R_elder' (by (with_reducible repeat (first|apply zN|apply zO|apply zP));exact HO_35.out) (Kd.R_base ho0) hb);have n1_:=zI (Kd.S_elder' (by (with_reducible repeat (first|apply Kd.S_alloc|apply Kd.S_drewN|apply Kd.S_drew));exact HO_44.out) (Kd.R_base ho0) hb);have n2_:=zI (Kd.R_elder' (by (with_reducible repeat (first|apply zN|apply zO|apply zP));exact HO_45.out) (Kd.R_base ho0) hb);have n3_:=zI (Kd.R_lower (Kd.R_new' (Kd.R_new' ho0 (Kd.R_lt (by (with_reducible repeat (first|apply zN|apply zO|apply zP));exact HO_35.out))) (Kd.R_lt (by (with_reducible repeat (first|apply zN|apply zO|apply zP));exact HO_45.out))) (below_size (by repeat (first|(with_reducible first|exact HB.out|apply zJ|apply zG|apply zH)|exact HB.out))));have n4_:=zI (below_step (by repeat (first|(with_reducible first|exact HB.out|apply zJ|apply zG|apply zH)|exact HB.out)) hb);clear HO_35;clear HO_44;clear HO_45;clear HB;have HO_35:=n0_;have HO_44:=n1_;have HO_45:=n2_;have HO513:=n3_;have HB:=n4_;clear n0_ n1_ n2_ n3_ n4_;(try clear hb);(try clear hb2);(try clear hk);(try clear hi);(try clear ho0)))
          repeat (go_quiet (first|(go_at_call 13;(with_reducible refine (impl_RisingPlan.calls kj134 t473 t476 t475 t510 t511 _ A155.out).mono ?_);rintro e w157 ⟨v512,rfl,ho0,hb⟩;have n0_:=zI (Kd.R_elder' (by (with_reducible repeat (first|apply zN|apply zO|apply zP));exact HO_35.out) (Kd.R_base ho0) hb);have n1_:=zI (Kd.S_elder' (by (with_reducible repeat (first|apply Kd.S_alloc|apply Kd.S_drewN|apply Kd.S_drew));exact HO_44.out) (Kd.R_base ho0) hb);have n2_:=zI (Kd.R_elder' (by (with_reducible repeat (first|apply zN|apply zO|apply zP));exact HO_45.out) (Kd.R_base ho0) hb);have n3_:=zI (Kd.R_lower (Kd.R_new' (Kd.R_new' ho0 (Kd.R_lt (by (with_reducible repeat (first|apply zN|apply zO|apply zP));exact HO_35.out))) (Kd.R_lt (by (with_reducible repeat (first|apply zN|apply zO|apply zP));exact HO_45.out))) (below_size (by repeat (first|(with_reducible first|exact HB.out|apply zJ|apply zG|apply zH)|exact HB.out))));have n4_:=zI (below_step (by repeat (first|(with_reducible first|exact HB.out|apply zJ|apply zG|apply zH)|exact HB.out)) hb);clear HO_35;clear HO_44;clear HO_45;clear HB;have HO_35:=n0_;have HO_44:=n1_;have HO_45:=n2_;have HO513:=n3_;have HB:=n4_;clear n0_ n1_ n2_ n3_ n4_;(try clear hb);(try clear hb2);(try clear hk);(try clear hi);(try clear ho0)));go_upto_region 48 with (first|(go_at_call 13;(with_reducible refine (impl_RisingPlan.calls kj134 t473 t476 t475 t510 t511 _ A155.out).mono ?_);rintro e w157 ⟨v512,rfl,ho0,hb⟩;have n0_:=zI (Kd.R_elder' (by (with_reducible repeat (first|apply zN|apply zO|apply zP));exact HO_35.out) (Kd.R_base ho0) hb);have n1_:=zI (Kd.S_elder' (by (with_reducible repeat (first|apply Kd.S_alloc|apply Kd.S_drewN|apply Kd.S_drew));exact HO_44.out) (Kd.R_base ho0) hb);have n2_:=zI (Kd.R_elder' (by (with_reducible repeat (first|apply zN|apply zO|apply zP));exact HO_45.out) (Kd.R_base ho0) hb);have n3_:=zI (Kd.R_lower (Kd.R_new' (Kd.R_new' ho0 (Kd.R_lt (by (with_reducible repeat (first|apply zN|apply zO|apply zP));exact HO_35.out))) (Kd.R_lt (by (with_reducible repeat (first|apply zN|apply zO|apply zP));exact HO_45.out))) (below_size (by repeat (first|(with_reducible first|exact HB.out|apply zJ|apply zG|apply zH)|exact HB.out))));have n4_:=zI (below_step (by repeat (first|(with_reducible first|exact HB.out|apply zJ|apply zG|apply zH)|exact HB.out)) hb);clear HO_35;clear HO_44;clear HO_45;clear HB;have HO_35:=n0_;have HO_44:=n1_;have HO_45:=n2_;have HO513:=n3_;have HB:=n4_;clear n0_ n1_ n2_ n3_ n4_;(try clear hb);(try clear hb2);(try clear hk);(try clear hi);(try clear ho0))))
          (try simp only [Act.put,zA,zB,zC])
          go_cut [420] from 406 to 420 (fun v420 wc=>∃ (kq : Nat) (x420_155 : Bool),v420 = .bool x420_155 ∧ Aside0 (laws_FnReadersPlan.j8 kq t473 t474 t475 t476 t480 t481 t482 t483 t484 t491 t495 t496 t497 t502 t503 x420_155 = some r) ∧ Aside0 (kq ≤ kj134) ∧ Aside0 (Kd.R (Kd.int .i64) 3 wc w.heap.size (fun k_=>some k_ ≠ ((.slice Ao89 t497.length co89) : Value).ownBlock) v485 t483) ∧ Aside0 (Kd.S (Kd.slice 3 (Kd.int .i64)) 26 wc w.heap.size (fun k_=>some k_ ≠ (v485 : Value).ownBlock ∧ some k_ ≠ ((.slice Ao89 t497.length co89) : Value).ownBlock) (.slice Ao88 t496.length co88) t496) ∧ Aside0 (Kd.R (Kd.int .i64) 3 wc w.heap.size (fun k_=>some k_ ≠ (v485 : Value).ownBlock) (.slice Ao89 t497.length co89) t497) ∧ Aside0 (Below w.heap.size w wc))
          case first => as_aux_lemma =>
           have H:=HC156.out;clear HC156
           by_cases c158 : t511 = true
           rotate_left
           · as_aux_lemma =>
             replace c158:=Bool.eq_false_iff.mpr c158
             subst c158
             have H1 : (laws_FnReadersPlan.j8 kj134 t473 t474 t475 t476 t480 t481 t482 t483 t484 t491 t495 t496 t497 t502 t503 true) = some r:=by rw [if_neg (show ¬ (false = true) by decide)] at H;exact H
             clear H;have H:=H1;clear H1;have H':=zI H;clear H
             go_wp2
             repeat (go_quiet (fail);try go_wp2)
             go_meet
             case rel=>exact ⟨_,(true),(by first|rfl|(simp;done)|(simp [*];done)),H',⟨by have:=HJ9.out;have:=HJ31.out;have:=HJ74.out;have:=HJ134.out;first|omega|exact Nat.le_refl _⟩,⟨by (with_reducible repeat (first|apply zN|apply zO|apply zP));exact Kd.R_mono HO_35.out (fun _ hk=>hk.1)⟩,⟨by (with_reducible repeat (first|apply Kd.S_alloc|apply Kd.S_drewN|apply Kd.S_drew));exact Kd.S_mono HO_44.out (fun _ hk=>⟨hk.1.1,hk.1.2⟩)⟩,⟨by (with_reducible repeat (first|apply zN|apply zO|apply zP));exact Kd.R_mono HO_45.out (fun _ hk=>hk.1)⟩,⟨by repeat (first|(with_reducible first|exact HB.out|apply zJ|apply zG|apply zH)|exact HB.out)⟩⟩
           subst c158
           have H1 : (laws_FnReadersPlan.j8 kj134 t473 t474 t475 t476 t480 t481 t482 t483 t484 t491 t495 t496 t497 t502 t503 (decide ((t510.length : Int) > t474))) = some r:=by rw [if_pos rfl] at H;exact H
           clear H;have H:=H1;clear H1;have H':=zI H;clear H
           obtain ⟨Ao159,co159,eo159⟩:=Kd.R_slice HO513.out
           subst eo159
           go_wp2
           repeat (go_quiet (fail);try go_wp2)
           go_meet
           case rel=>exact ⟨_,(decide ((t510.length : Int) > t474)),(by first|rfl|(simp;done)|(simp [*];done)),H',⟨by have:=HJ9.out;have:=HJ31.out;have:=HJ74.out;have:=HJ134.out;first|omega|exact Nat.le_refl _⟩,⟨by (with_reducible repeat (first|apply zN|apply zO|apply zP));exact Kd.R_mono HO_35.out (fun _ hk=>hk.1)⟩,⟨by (with_reducible repeat (first|apply Kd.S_alloc|apply Kd.S_drewN|apply Kd.S_drew));exact Kd.S_mono HO_44.out (fun _ hk=>⟨hk.1.1,hk.1.2⟩)⟩,⟨by (with_reducible repeat (first|apply zN|apply zO|apply zP));exact Kd.R_mono HO_45.out (fun _ hk=>hk.1)⟩,⟨by repeat (first|(with_reducible first|exact HB.out|apply zJ|apply zG|apply zH)|exact HB.out)⟩⟩
          case rest => as_aux_lemma =>
           clear HC156
           (try clear c1);(try clear c2);(try clear p2);(try clear c3);(try clear c4);(try clear p4);(try clear q4);(try clear hx4);(try clear qi4);(try clear c5);(try clear p5);(try clear q5);(try clear hx5);(try clear c6);(try clear p6);(try clear c9);(try clear c10);(try clear c11);(try clear c13);(try clear c14);(try clear c15);(try clear c15b0);(try clear c15b1);(try clear c15b2);(try clear c17);(try clear c18);(try clear c18b0);(try clear c18b1);(try clear c18b2);(try clear c21);(try clear c21b0);(try clear c21b1);(try clear c22);(try clear c31);(try clear c33);(try clear c35);(try clear c35b0);(try clear c35b1);(try clear c39);(try clear c41);(try clear c41b0);(try clear c42);(try clear c42b0);(try clear c43);(try clear c43b0);(try clear c44);(try clear c44b0);(try clear c45);(try clear c45b0);(try clear c45b1);(try clear p45);(try clear q45);(try clear hx45);(try clear qi45);(try clear c46);(try clear c46b0);(try clear p46);(try clear q46);(try clear hx46);(try clear qi46);(try clear c47);(try clear c47b0);(try clear c48);(try clear c48b0);(try clear c50);(try clear c50b0);(try clear p50);(try clear q50);(try clear hx50);(try clear c51);(try clear c51b0);(try clear c52);(try clear c52b0);(try clear c53);(try clear c54);(try clear c54b0);(try clear c54b1);(try clear c55);(try clear c55b0);(try clear c56);(try clear c56b0);(try clear c57);(try clear c57b0);(try clear c57b1);(try clear c58);(try clear c58b0);(try clear c58b1);(try clear c59);(try clear c59b0);(try clear c60);(try clear c60b0);(try clear p64);(try clear c90);(try clear c90b0);(try clear c90b1);(try clear c90b2);(try clear c92);(try clear c93);(try clear c93b0);(try clear c93b1);(try clear c93b2);(try clear c96);(try clear c96b0);(try clear c96b1);(try clear c97);(try clear c97b0);(try clear c97b1);(try clear c97b2);(try clear c101);(try clear c102);(try clear c102b0);(try clear c102b1);(try clear c102b2);(try clear c107);(try clear c107b0);(try clear c107b1);(try clear c108);(try clear c108b0);(try clear c108b1);(try clear c108b2);(try clear c113);(try clear c113b0);(try clear c113b1);(try clear c134);(try clear c136);(try clear c139);(try clear c139b0);(try clear c139b1);(try clear c142);(try clear c144);(try clear c144b0);(try clear c145);(try clear c145b0);(try clear c146);(try clear c146b0);(try clear c147);(try clear c147b0);(try clear c148);(try clear c148b0);(try clear c148b1);(try clear c149);(try clear c149b0);(try clear c150);(try clear c150b0);(try clear c151);(try clear c151b0);(try clear c152);(try clear c152b0);(try clear c154);(try clear c158);(try clear hx454_0);(try clear hx455_0);(try clear hx456_0);(try clear hx457_0);(try clear hx458_0);(try clear hx459_0);(try clear hx460_0);(try clear hx461_0);(try clear hx509_0);(try clear p2);(try clear p4);(try clear p45);(try clear p454);(try clear p455);(try clear p456);(try clear p457);(try clear p458);(try clear p459);(try clear p46);(try clear p460);(try clear p461);(try clear p5);(try clear p50);(try clear p509);(try clear p6);(try clear p64);(try clear q4);(try clear q45);(try clear q454);(try clear q455);(try clear q456);(try clear q457);(try clear q458);(try clear q459);(try clear q46);(try clear q460);(try clear q461);(try clear q5);(try clear q50);(try clear q509)
           obtain ⟨kq,x420_155,rfl,HA,HJ155,HO_35,HO_44,HO_45,HB⟩:=hcut
           cases kq with
           | zero=>exact absurd HA.out (by simp [laws_FnReadersPlan.j8])
           | succ kj155 =>
            have H:=HA.out;clear HA
            simp only [laws_FnReadersPlan.j8] at H
            by_cases c160 : x420_155 = true
            · as_aux_lemma =>
              subst c160
              have H1 : (some false) = some r:=by rw [if_pos rfl] at H;exact H
              clear H;have H:=H1;clear H1
              obtain rfl:=Option.some.inj H
              go_wp2
              repeat (go_quiet (fail);try go_wp2)
              go_ret
              exact ⟨by first|rfl|(simp [errW_none,errW_some] <;> rfl)|(simp [*,errW_none,errW_some] <;> rfl),by repeat (first|(with_reducible first|exact HB.out|apply zJ|apply zG|apply zH)|exact HB.out)⟩
            replace c160:=Bool.eq_false_iff.mpr c160
            subst c160
            have H1 : (if t476 > 1 then ((impl_RisingPlan.f kj155 t473 (wrap64 (t476 - 1)) t475).bind fun bt514=>(if bt514.2 = true then (if (bt514.1.length : Int) ≤ t474 then (some false) else (laws_FnReadersPlan.j9 kj155 t480 t481 t482 t483 t484 t491 t495 t496 t497 t502 t503)) else (some false))) else (laws_FnReadersPlan.j9 kj155 t480 t481 t482 t483 t484 t491 t495 t496 t497 t502 t503)) = some r:=by rw [if_neg (show ¬ (false = true) by decide)] at H;exact H
            clear H;have H:=H1;clear H1
            by_cases c161 : t476 > 1
            rotate_left
            · as_aux_lemma =>
              rw [if_neg c161] at H
              have c161b0 : decide (1 < t476) = false:=decide_eq_false c161
              clear c161;have H':=zI H;clear H
              go_wp2
              repeat (go_quiet (fail);try go_wp2)
              go_meet
              case rel=>exact ⟨_,H',⟨by have:=HJ9.out;have:=HJ31.out;have:=HJ74.out;have:=HJ134.out;have:=HJ155.out;first|omega|exact Nat.le_refl _⟩,⟨by (with_reducible repeat (first|apply zN|apply zO|apply zP));exact HO_35.out⟩,⟨by (with_reducible repeat (first|apply Kd.S_alloc|apply Kd.S_drewN|apply Kd.S_drew));exact HO_44.out⟩,⟨by (with_reducible repeat (first|apply zN|apply zO|apply zP));exact HO_45.out⟩,⟨by repeat (first|(with_reducible first|exact HB.out|apply zJ|apply zG|apply zH)|exact HB.out)⟩⟩
            rw [if_pos c161] at H
            have c161b0 : decide (1 < t476) = true:=decide_eq_true c161
            clear c161;replace H:=Option.bind_eq_some_iff.mp H
            obtain ⟨⟨t514,t515⟩,A1620,H⟩:=H
            replace H : (if t515 = true then (if (t514.length : Int) ≤ t474 then (some false) else (laws_FnReadersPlan.j9 kj155 t480 t481 t482 t483 t484 t491 t495 t496 t497 t502 t503)) else (some false)) = some r:=H
            have A162:=zI A1620;clear A1620
            by_cases c163 : t515 = true
            rotate_left
            · as_aux_lemma =>
              replace c163:=Bool.eq_false_iff.mpr c163
              subst c163
              have H1 : (some false) = some r:=by rw [if_neg (show ¬ (false = true) by decide)] at H;exact H
              clear H;have H:=H1;clear H1
              obtain rfl:=Option.some.inj H
              go_wp2_with (first|(go_at_call 13;refine calls_of_args (args':=#[.int .i64 t473,.int .i64 (wrap64 (t476 - 1)),.int .i64 t475]) (by first|rfl|(simp only [Go.IntWalk.i64_left];done)|(simp only [Go.IntWalk.i64_left];rfl)) ?_;(with_reducible refine (impl_RisingPlan.calls kj155 t473 (wrap64 (t476 - 1)) t475 t514 false _ A162.out).mono ?_);rintro e w169 ⟨v516,rfl,ho0,hb⟩;have n0_:=zI (Kd.R_elder' (by (with_reducible repeat (first|apply zN|apply zO|apply zP));exact HO_35.out) (Kd.R_base ho0) hb);have n1_:=zI (Kd.S_elder' (by (with_reducible repeat (first|apply Kd.S_alloc|apply Kd.S_drewN|apply Kd.S_drew));exact HO_44.out) (Kd.R_base ho0) hb);have n2_:=zI (Kd.R_elder' (by (with_reducible repeat (first|apply zN|apply zO|apply zP));exact HO_45.out) (Kd.R_base ho0) hb);have n3_:=zI (Kd.R_lower (Kd.R_new' (Kd.R_new' ho0 (Kd.R_lt (by (with_reducible repeat (first|apply zN|apply zO|apply zP));exact HO_35.out))) (Kd.R_lt (by (with_reducible repeat (first|apply zN|apply zO|apply zP));exact HO_45.out))) (below_size (by repeat (first|(with_reducible first|exact HB.out|apply zJ|apply zG|apply zH)|exact HB.out))));have n4_:=zI (below_step (by repeat (first|(with_reducible first|exact HB.out|apply zJ|apply zG|apply zH)|exact HB.out)) hb);clear HO_35;clear HO_44;clear HO_45;clear HB;have HO_35:=n0_;have HO_44:=n1_;have HO_45:=n2_;have HO517:=n3_;have HB:=n4_;clear n0_ n1_ n2_ n3_ n4_;(try clear hb);(try clear hb2);(try clear hk);(try clear hi);(try clear ho0)))
              repeat (go_quiet (first|(go_at_call 13;refine calls_of_args (args':=#[.int .i64 t473,.int .i64 (wrap64 (t476 - 1)),.int .i64 t475]) (by first|rfl|(simp only [Go.IntWalk.i64_left];done)|(simp only [Go.IntWalk.i64_left];rfl)) ?_;(with_reducible refine (impl_RisingPlan.calls kj155 t473 (wrap64 (t476 - 1)) t475 t514 false _ A162.out).mono ?_);rintro e w169 ⟨v516,rfl,ho0,hb⟩;have n0_:=zI (Kd.R_elder' (by (with_reducible repeat (first|apply zN|apply zO|apply zP));exact HO_35.out) (Kd.R_base ho0) hb);have n1_:=zI (Kd.S_elder' (by (with_reducible repeat (first|apply Kd.S_alloc|apply Kd.S_drewN|apply Kd.S_drew));exact HO_44.out) (Kd.R_base ho0) hb);have n2_:=zI (Kd.R_elder' (by (with_reducible repeat (first|apply zN|apply zO|apply zP));exact HO_45.out) (Kd.R_base ho0) hb);have n3_:=zI (Kd.R_lower (Kd.R_new' (Kd.R_new' ho0 (Kd.R_lt (by (with_reducible repeat (first|apply zN|apply zO|apply zP));exact HO_35.out))) (Kd.R_lt (by (with_reducible repeat (first|apply zN|apply zO|apply zP));exact HO_45.out))) (below_size (by repeat (first|(with_reducible first|exact HB.out|apply zJ|apply zG|apply zH)|exact HB.out))));have n4_:=zI (below_step (by repeat (first|(with_reducible first|exact HB.out|apply zJ|apply zG|apply zH)|exact HB.out)) hb);clear HO_35;clear HO_44;clear HO_45;clear HB;have HO_35:=n0_;have HO_44:=n1_;have HO_45:=n2_;have HO517:=n3_;have HB:=n4_;clear n0_ n1_ n2_ n3_ n4_;(try clear hb);(try clear hb2);(try clear hk);(try clear hi);(try clear ho0)));try go_wp2_with (first|(go_at_call 13;refine calls_of_args (args':=#[.int .i64 t473,.int .i64 (wrap64 (t476 - 1)),.int .i64 t475]) (by first|rfl|(simp only [Go.IntWalk.i64_left];done)|(simp only [Go.IntWalk.i64_left];rfl)) ?_;(with_reducible refine (impl_RisingPlan.calls kj155 t473 (wrap64 (t476 - 1)) t475 t514 false _ A162.out).mono ?_);rintro e w169 ⟨v516,rfl,ho0,hb⟩;have n0_:=zI (Kd.R_elder' (by (with_reducible repeat (first|apply zN|apply zO|apply zP));exact HO_35.out) (Kd.R_base ho0) hb);have n1_:=zI (Kd.S_elder' (by (with_reducible repeat (first|apply Kd.S_alloc|apply Kd.S_drewN|apply Kd.S_drew));exact HO_44.out) (Kd.R_base ho0) hb);have n2_:=zI (Kd.R_elder' (by (with_reducible repeat (first|apply zN|apply zO|apply zP));exact HO_45.out) (Kd.R_base ho0) hb);have n3_:=zI (Kd.R_lower (Kd.R_new' (Kd.R_new' ho0 (Kd.R_lt (by (with_reducible repeat (first|apply zN|apply zO|apply zP));exact HO_35.out))) (Kd.R_lt (by (with_reducible repeat (first|apply zN|apply zO|apply zP));exact HO_45.out))) (below_size (by repeat (first|(with_reducible first|exact HB.out|apply zJ|apply zG|apply zH)|exact HB.out))));have n4_:=zI (below_step (by repeat (first|(with_reducible first|exact HB.out|apply zJ|apply zG|apply zH)|exact HB.out)) hb);clear HO_35;clear HO_44;clear HO_45;clear HB;have HO_35:=n0_;have HO_44:=n1_;have HO_45:=n2_;have HO517:=n3_;have HB:=n4_;clear n0_ n1_ n2_ n3_ n4_;(try clear hb);(try clear hb2);(try clear hk);(try clear hi);(try clear ho0))))
              go_ret
              exact ⟨by first|rfl|(simp [errW_none,errW_some] <;> rfl)|(simp [*,errW_none,errW_some] <;> rfl),by repeat (first|(with_reducible first|exact HB.out|apply zJ|apply zG|apply zH)|exact HB.out)⟩
            subst c163
            have H1 : (if (t514.length : Int) ≤ t474 then (some false) else (laws_FnReadersPlan.j9 kj155 t480 t481 t482 t483 t484 t491 t495 t496 t497 t502 t503)) = some r:=by rw [if_pos rfl] at H;exact H
            clear H;have H:=H1;clear H1
            by_cases c164 : (t514.length : Int) ≤ t474
            · as_aux_lemma =>
              rw [if_pos c164] at H
              have c164b0 : decide ((t514.length : Int) ≤ t474) = true:=decide_eq_true c164
              clear c164
              obtain rfl:=Option.some.inj H
              go_wp2_with (first|(go_at_call 13;refine calls_of_args (args':=#[.int .i64 t473,.int .i64 (wrap64 (t476 - 1)),.int .i64 t475]) (by first|rfl|(simp only [Go.IntWalk.i64_left];done)|(simp only [Go.IntWalk.i64_left];rfl)) ?_;(with_reducible refine (impl_RisingPlan.calls kj155 t473 (wrap64 (t476 - 1)) t475 t514 true _ A162.out).mono ?_);rintro e w165 ⟨v516,rfl,ho0,hb⟩;have n0_:=zI (Kd.R_elder' (by (with_reducible repeat (first|apply zN|apply zO|apply zP));exact HO_35.out) (Kd.R_base ho0) hb);have n1_:=zI (Kd.S_elder' (by (with_reducible repeat (first|apply Kd.S_alloc|apply Kd.S_drewN|apply Kd.S_drew));exact HO_44.out) (Kd.R_base ho0) hb);have n2_:=zI (Kd.R_elder' (by (with_reducible repeat (first|apply zN|apply zO|apply zP));exact HO_45.out) (Kd.R_base ho0) hb);have n3_:=zI (Kd.R_lower (Kd.R_new' (Kd.R_new' ho0 (Kd.R_lt (by (with_reducible repeat (first|apply zN|apply zO|apply zP));exact HO_35.out))) (Kd.R_lt (by (with_reducible repeat (first|apply zN|apply zO|apply zP));exact HO_45.out))) (below_size (by repeat (first|(with_reducible first|exact HB.out|apply zJ|apply zG|apply zH)|exact HB.out))));have n4_:=zI (below_step (by repeat (first|(with_reducible first|exact HB.out|apply zJ|apply zG|apply zH)|exact HB.out)) hb);clear HO_35;clear HO_44;clear HO_45;clear HB;have HO_35:=n0_;have HO_44:=n1_;have HO_45:=n2_;have HO517:=n3_;have HB:=n4_;clear n0_ n1_ n2_ n3_ n4_;(try clear hb);(try clear hb2);(try clear hk);(try clear hi);(try clear ho0);obtain ⟨Ao166,co166,eo166⟩:=Kd.R_slice HO517.out;subst eo166))
              repeat (go_quiet (first|(go_at_call 13;refine calls_of_args (args':=#[.int .i64 t473,.int .i64 (wrap64 (t476 - 1)),.int .i64 t475]) (by first|rfl|(simp only [Go.IntWalk.i64_left];done)|(simp only [Go.IntWalk.i64_left];rfl)) ?_;(with_reducible refine (impl_RisingPlan.calls kj155 t473 (wrap64 (t476 - 1)) t475 t514 true _ A162.out).mono ?_);rintro e w165 ⟨v516,rfl,ho0,hb⟩;have n0_:=zI (Kd.R_elder' (by (with_reducible repeat (first|apply zN|apply zO|apply zP));exact HO_35.out) (Kd.R_base ho0) hb);have n1_:=zI (Kd.S_elder' (by (with_reducible repeat (first|apply Kd.S_alloc|apply Kd.S_drewN|apply Kd.S_drew));exact HO_44.out) (Kd.R_base ho0) hb);have n2_:=zI (Kd.R_elder' (by (with_reducible repeat (first|apply zN|apply zO|apply zP));exact HO_45.out) (Kd.R_base ho0) hb);have n3_:=zI (Kd.R_lower (Kd.R_new' (Kd.R_new' ho0 (Kd.R_lt (by (with_reducible repeat (first|apply zN|apply zO|apply zP));exact HO_35.out))) (Kd.R_lt (by (with_reducible repeat (first|apply zN|apply zO|apply zP));exact HO_45.out))) (below_size (by repeat (first|(with_reducible first|exact HB.out|apply zJ|apply zG|apply zH)|exact HB.out))));have n4_:=zI (below_step (by repeat (first|(with_reducible first|exact HB.out|apply zJ|apply zG|apply zH)|exact HB.out)) hb);clear HO_35;clear HO_44;clear HO_45;clear HB;have HO_35:=n0_;have HO_44:=n1_;have HO_45:=n2_;have HO517:=n3_;have HB:=n4_;clear n0_ n1_ n2_ n3_ n4_;(try clear hb);(try clear hb2);(try clear hk);(try clear hi);(try clear ho0);obtain ⟨Ao166,co166,eo166⟩:=Kd.R_slice HO517.out;subst eo166));try go_wp2_with (first|(go_at_call 13;refine calls_of_args (args':=#[.int .i64 t473,.int .i64 (wrap64 (t476 - 1)),.int .i64 t475]) (by first|rfl|(simp only [Go.IntWalk.i64_left];done)|(simp only [Go.IntWalk.i64_left];rfl)) ?_;(with_reducible refine (impl_RisingPlan.calls kj155 t473 (wrap64 (t476 - 1)) t475 t514 true _ A162.out).mono ?_);rintro e w165 ⟨v516,rfl,ho0,hb⟩;have n0_:=zI (Kd.R_elder' (by (with_reducible repeat (first|apply zN|apply zO|apply zP));exact HO_35.out) (Kd.R_base ho0) hb);have n1_:=zI (Kd.S_elder' (by (with_reducible repeat (first|apply Kd.S_alloc|apply Kd.S_drewN|apply Kd.S_drew));exact HO_44.out) (Kd.R_base ho0) hb);have n2_:=zI (Kd.R_elder' (by (with_reducible repeat (first|apply zN|apply zO|apply zP));exact HO_45.out) (Kd.R_base ho0) hb);have n3_:=zI (Kd.R_lower (Kd.R_new' (Kd.R_new' ho0 (Kd.R_lt (by (with_reducible repeat (first|apply zN|apply zO|apply zP));exact HO_35.out))) (Kd.R_lt (by (with_reducible repeat (first|apply zN|apply zO|apply zP));exact HO_45.out))) (below_size (by repeat (first|(with_reducible first|exact HB.out|apply zJ|apply zG|apply zH)|exact HB.out))));have n4_:=zI (below_step (by repeat (first|(with_reducible first|exact HB.out|apply zJ|apply zG|apply zH)|exact HB.out)) hb);clear HO_35;clear HO_44;clear HO_45;clear HB;have HO_35:=n0_;have HO_44:=n1_;have HO_45:=n2_;have HO517:=n3_;have HB:=n4_;clear n0_ n1_ n2_ n3_ n4_;(try clear hb);(try clear hb2);(try clear hk);(try clear hi);(try clear ho0);obtain ⟨Ao166,co166,eo166⟩:=Kd.R_slice HO517.out;subst eo166)))
              go_ret
              exact ⟨by first|rfl|(simp [errW_none,errW_some] <;> rfl)|(simp [*,errW_none,errW_some] <;> rfl),by repeat (first|(with_reducible first|exact HB.out|apply zJ|apply zG|apply zH)|exact HB.out)⟩
            rw [if_neg c164] at H
            have c164b0 : decide ((t514.length : Int) ≤ t474) = false:=decide_eq_false c164
            clear c164;have H':=zI H;clear H
            go_wp2_with (first|(go_at_call 13;refine calls_of_args (args':=#[.int .i64 t473,.int .i64 (wrap64 (t476 - 1)),.int .i64 t475]) (by first|rfl|(simp only [Go.IntWalk.i64_left];done)|(simp only [Go.IntWalk.i64_left];rfl)) ?_;(with_reducible refine (impl_RisingPlan.calls kj155 t473 (wrap64 (t476 - 1)) t475 t514 true _ A162.out).mono ?_);rintro e w167 ⟨v516,rfl,ho0,hb⟩;have n0_:=zI (Kd.R_elder' (by (with_reducible repeat (first|apply zN|apply zO|apply zP));exact HO_35.out) (Kd.R_base ho0) hb);have n1_:=zI (Kd.S_elder' (by (with_reducible repeat (first|apply Kd.S_alloc|apply Kd.S_drewN|apply Kd.S_drew));exact HO_44.out) (Kd.R_base ho0) hb);have n2_:=zI (Kd.R_elder' (by (with_reducible repeat (first|apply zN|apply zO|apply zP));exact HO_45.out) (Kd.R_base ho0) hb);have n3_:=zI (Kd.R_lower (Kd.R_new' (Kd.R_new' ho0 (Kd.R_lt (by (with_reducible repeat (first|apply zN|apply zO|apply zP));exact HO_35.out))) (Kd.R_lt (by (with_reducible repeat (first|apply zN|apply zO|apply zP));exact HO_45.out))) (below_size (by repeat (first|(with_reducible first|exact HB.out|apply zJ|apply zG|apply zH)|exact HB.out))));have n4_:=zI (below_step (by repeat (first|(with_reducible first|exact HB.out|apply zJ|apply zG|apply zH)|exact HB.out)) hb);clear HO_35;clear HO_44;clear HO_45;clear HB;have HO_35:=n0_;have HO_44:=n1_;have HO_45:=n2_;have HO517:=n3_;have HB:=n4_;clear n0_ n1_ n2_ n3_ n4_;(try clear hb);(try clear hb2);(try clear hk);(try clear hi);(try clear ho0);obtain ⟨Ao168,co168,eo168⟩:=Kd.R_slice HO517.out;subst eo168))
            repeat (go_quiet (first|(go_at_call 13;refine calls_of_args (args':=#[.int .i64 t473,.int .i64 (wrap64 (t476 - 1)),.int .i64 t475]) (by first|rfl|(simp only [Go.IntWalk.i64_left];done)|(simp only [Go.IntWalk.i64_left];rfl)) ?_;(with_reducible refine (impl_RisingPlan.calls kj155 t473 (wrap64 (t476 - 1)) t475 t514 true _ A162.out).mono ?_);rintro e w167 ⟨v516,rfl,ho0,hb⟩;have n0_:=zI (Kd.R_elder' (by (with_reducible repeat (first|apply zN|apply zO|apply zP));exact HO_35.out) (Kd.R_base ho0) hb);have n1_:=zI (Kd.S_elder' (by (with_reducible repeat (first|apply Kd.S_alloc|apply Kd.S_drewN|apply Kd.S_drew));exact HO_44.out) (Kd.R_base ho0) hb);have n2_:=zI (Kd.R_elder' (by (with_reducible repeat (first|apply zN|apply zO|apply zP));exact HO_45.out) (Kd.R_base ho0) hb);have n3_:=zI (Kd.R_lower (Kd.R_new' (Kd.R_new' ho0 (Kd.R_lt (by (with_reducible repeat (first|apply zN|apply zO|apply zP));exact HO_35.out))) (Kd.R_lt (by (with_reducible repeat (first|apply zN|apply zO|apply zP));exact HO_45.out))) (below_size (by repeat (first|(with_reducible first|exact HB.out|apply zJ|apply zG|apply zH)|exact HB.out))));have n4_:=zI (below_step (by repeat (first|(with_reducible first|exact HB.out|apply zJ|apply zG|apply zH)|exact HB.out)) hb);clear HO_35;clear HO_44;clear HO_45;clear HB;have HO_35:=n0_;have HO_44:=n1_;have HO_45:=n2_;have HO517:=n3_;have HB:=n4_;clear n0_ n1_ n2_ n3_ n4_;(try clear hb);(try clear hb2);(try clear hk);(try clear hi);(try clear ho0);obtain ⟨Ao168,co168,eo168⟩:=Kd.R_slice HO517.out;subst eo168));try go_wp2_with (first|(go_at_call 13;refine calls_of_args (args':=#[.int .i64 t473,.int .i64 (wrap64 (t476 - 1)),.int .i64 t475]) (by first|rfl|(simp only [Go.IntWalk.i64_left];done)|(simp only [Go.IntWalk.i64_left];rfl)) ?_;(with_reducible refine (impl_RisingPlan.calls kj155 t473 (wrap64 (t476 - 1)) t475 t514 true _ A162.out).mono ?_);rintro e w167 ⟨v516,rfl,ho0,hb⟩;have n0_:=zI (Kd.R_elder' (by (with_reducible repeat (first|apply zN|apply zO|apply zP));exact HO_35.out) (Kd.R_base ho0) hb);have n1_:=zI (Kd.S_elder' (by (with_reducible repeat (first|apply Kd.S_alloc|apply Kd.S_drewN|apply Kd.S_drew));exact HO_44.out) (Kd.R_base ho0) hb);have n2_:=zI (Kd.R_elder' (by (with_reducible repeat (first|apply zN|apply zO|apply zP));exact HO_45.out) (Kd.R_base ho0) hb);have n3_:=zI (Kd.R_lower (Kd.R_new' (Kd.R_new' ho0 (Kd.R_lt (by (with_reducible repeat (first|apply zN|apply zO|apply zP));exact HO_35.out))) (Kd.R_lt (by (with_reducible repeat (first|apply zN|apply zO|apply zP));exact HO_45.out))) (below_size (by repeat (first|(with_reducible first|exact HB.out|apply zJ|apply zG|apply zH)|exact HB.out))));have n4_:=zI (below_step (by repeat (first|(with_reducible first|exact HB.out|apply zJ|apply zG|apply zH)|exact HB.out)) hb);clear HO_35;clear HO_44;clear HO_45;clear HB;have HO_35:=n0_;have HO_44:=n1_;have HO_45:=n2_;have HO517:=n3_;have HB:=n4_;clear n0_ n1_ n2_ n3_ n4_;(try clear hb);(try clear hb2);(try clear hk);(try clear hi);(try clear ho0);obtain ⟨Ao168,co168,eo168⟩:=Kd.R_slice HO517.out;subst eo168)))
            go_meet
            case rel=>exact ⟨_,H',⟨by have:=HJ9.out;have:=HJ31.out;have:=HJ74.out;have:=HJ134.out;have:=HJ155.out;first|omega|exact Nat.le_refl _⟩,⟨by (with_reducible repeat (first|apply zN|apply zO|apply zP));exact Kd.R_mono HO_35.out (fun _ hk=>hk.1)⟩,⟨by (with_reducible repeat (first|apply Kd.S_alloc|apply Kd.S_drewN|apply Kd.S_drew));exact Kd.S_mono HO_44.out (fun _ hk=>⟨hk.1.1,hk.1.2⟩)⟩,⟨by (with_reducible repeat (first|apply zN|apply zO|apply zP));exact Kd.R_mono HO_45.out (fun _ hk=>hk.1)⟩,⟨by repeat (first|(with_reducible first|exact HB.out|apply zJ|apply zG|apply zH)|exact HB.out)⟩⟩
         case rest => as_aux_lemma =>
          clear HC153
          (try clear c1);(try clear c2);(try clear p2);(try clear c3);(try clear c4);(try clear p4);(try clear q4);(try clear hx4);(try clear qi4);(try clear c5);(try clear p5);(try clear q5);(try clear hx5);(try clear c6);(try clear p6);(try clear c9);(try clear c10);(try clear c11);(try clear c13);(try clear c14);(try clear c15);(try clear c15b0);(try clear c15b1);(try clear c15b2);(try clear c16);(try clear c17);(try clear c18);(try clear c18b0);(try clear c18b1);(try clear c18b2);(try clear c21);(try clear c21b0);(try clear c21b1);(try clear c22);(try clear c31);(try clear c33);(try clear c35);(try clear c35b0);(try clear c35b1);(try clear c39);(try clear c41);(try clear c41b0);(try clear c42);(try clear c42b0);(try clear c43);(try clear c43b0);(try clear c44);(try clear c44b0);(try clear c45);(try clear c45b0);(try clear c45b1);(try clear p45);(try clear q45);(try clear hx45);(try clear qi45);(try clear c46);(try clear c46b0);(try clear p46);(try clear q46);(try clear hx46);(try clear qi46);(try clear c47);(try clear c47b0);(try clear c48);(try clear c48b0);(try clear c50);(try clear c50b0);(try clear p50);(try clear q50);(try clear hx50);(try clear c51);(try clear c51b0);(try clear c52);(try clear c52b0);(try clear c53);(try clear c54);(try clear c54b0);(try clear c54b1);(try clear c55);(try clear c55b0);(try clear c56);(try clear c56b0);(try clear c57);(try clear c57b0);(try clear c57b1);(try clear c58);(try clear c58b0);(try clear c58b1);(try clear c59);(try clear c59b0);(try clear c60);(try clear c60b0);(try clear p64);(try clear c90);(try clear c90b0);(try clear c90b1);(try clear c90b2);(try clear c92);(try clear c93);(try clear c93b0);(try clear c93b1);(try clear c93b2);(try clear c96);(try clear c96b0);(try clear c96b1);(try clear c97);(try clear c97b0);(try clear c97b1);(try clear c97b2);(try clear c101);(try clear c102);(try clear c102b0);(try clear c102b1);(try clear c102b2);(try clear c107);(try clear c107b0);(try clear c107b1);(try clear c108);(try clear c108b0);(try clear c108b1);(try clear c108b2);(try clear c113);(try clear c113b0);(try clear c113b1);(try clear c134);(try clear c136);(try clear c139);(try clear c139b0);(try clear c139b1);(try clear c142);(try clear c144);(try clear c144b0);(try clear c145);(try clear c145b0);(try clear c146);(try clear c146b0);(try clear c147);(try clear c147b0);(try clear c148);(try clear c148b0);(try clear c148b1);(try clear c149);(try clear c149b0);(try clear c150);(try clear c150b0);(try clear c151);(try clear c151b0);(try clear c152);(try clear c152b0);(try clear c154);(try clear c158);(try clear c160);(try clear c161);(try clear c161b0);(try clear c163);(try clear c164);(try clear c164b0);(try clear hx454_0);(try clear hx455_0);(try clear hx456_0);(try clear hx457_0);(try clear hx458_0);(try clear hx459_0);(try clear hx460_0);(try clear hx461_0);(try clear hx509_0);(try clear p2);(try clear p4);(try clear p45);(try clear p454);(try clear p455);(try clear p456);(try clear p457);(try clear p458);(try clear p459);(try clear p46);(try clear p460);(try clear p461);(try clear p5);(try clear p50);(try clear p509);(try clear p6);(try clear p64);(try clear q4);(try clear q45);(try clear q454);(try clear q455);(try clear q456);(try clear q457);(try clear q458);(try clear q459);(try clear q46);(try clear q460);(try clear q461);(try clear q5);(try clear q50);(try clear q509)
          obtain ⟨kq,HA,HJ152,HO_35,HO_44,HO_45,HB⟩:=hcut
          cases kq with
          | zero=>exact absurd HA.out (by simp [laws_FnReadersPlan.j9])
          | succ kj152 =>
           have H:=HA.out;clear HA
           simp only [laws_FnReadersPlan.j9] at H
           have HC170:=zI H;clear H
           go_upto_if 439 with (fail)
           repeat (go_quiet (fail);go_upto_if 439 with (fail))
           go_cut [] from 421 to 439 (fun wc=>∃ (kq : Nat),Aside0 (laws_FnReadersPlan.j12 kq t495 t496 t497 t502 t503 = some r) ∧ Aside0 (kq ≤ kj152) ∧ Aside0 (Kd.S (Kd.slice 3 (Kd.int .i64)) 26 wc w.heap.size (fun k_=>some k_ ≠ ((.slice Ao89 t497.length co89) : Value).ownBlock) (.slice Ao88 t496.length co88) t496) ∧ Aside0 (Kd.R (Kd.int .i64) 3 wc w.heap.size (fun _=>True) (.slice Ao89 t497.length co89) t497) ∧ Aside0 (Below w.heap.size w wc))
           case first => as_aux_lemma =>
            have H:=HC170.out;clear HC170
            by_cases c171 : t484 = true
            rotate_left
            · as_aux_lemma =>
              replace c171:=Bool.eq_false_iff.mpr c171
              subst c171
              have H1 : (laws_FnReadersPlan.j12 kj152 t495 t496 t497 t502 t503) = some r:=by rw [if_neg (show ¬ (false = true) by decide)] at H;exact H
              clear H;have H:=H1;clear H1;have H':=zI H;clear H
              go_wp2
              repeat (go_quiet (fail);try go_wp2)
              go_meet
              case rel=>exact ⟨_,H',⟨by have:=HJ9.out;have:=HJ31.out;have:=HJ74.out;have:=HJ134.out;have:=HJ152.out;first|omega|exact Nat.le_refl _⟩,⟨by (with_reducible repeat (first|apply Kd.S_alloc|apply Kd.S_drewN|apply Kd.S_drew));exact Kd.S_mono HO_44.out (fun _ hk=>hk.2)⟩,⟨by (with_reducible repeat (first|apply zN|apply zO|apply zP));exact Kd.R_mono HO_45.out (fun _ hk=>trivial)⟩,⟨by repeat (first|(with_reducible first|exact HB.out|apply zJ|apply zG|apply zH)|exact HB.out)⟩⟩
            subst c171
            have H1 : (if (t483.length : Int) = t491 then ((laws_xSum.f kj152 t483).bind fun t518=>(if t518 = t480 then (if 0 ≤ (wrap64 ((t483.length : Int) - 1)) then (if (wrap64 ((t483.length : Int) - 1)) < (t483.length : Int) then (laws_FnReadersPlan.j10 kj152 t480 t481 t482 t483 t495 t496 t497 t502 t503 (decide ((rd t483 (wrap64 ((t483.length : Int) - 1))) < 1))) else (none)) else (none)) else (laws_FnReadersPlan.j10 kj152 t480 t481 t482 t483 t495 t496 t497 t502 t503 true))) else (laws_FnReadersPlan.j10 kj152 t480 t481 t482 t483 t495 t496 t497 t502 t503 true)) = some r:=by rw [if_pos rfl] at H;exact H
            clear H;have H:=H1;clear H1;have HC172:=zI H;clear H
            go_upto_region 55 with (fail)
            repeat (go_quiet (fail);go_upto_region 55 with (fail))
            go_cut [458] from 440 to 458 (fun v458 wc=>∃ (kq : Nat) (x458_171 : Bool),v458 = .bool x458_171 ∧ Aside0 (laws_FnReadersPlan.j10 kq t480 t481 t482 t483 t495 t496 t497 t502 t503 x458_171 = some r) ∧ Aside0 (kq ≤ kj152) ∧ Aside0 (Kd.R (Kd.int .i64) 3 wc w.heap.size (fun k_=>some k_ ≠ ((.slice Ao89 t497.length co89) : Value).ownBlock) v485 t483) ∧ Aside0 (Kd.S (Kd.slice 3 (Kd.int .i64)) 26 wc w.heap.size (fun k_=>some k_ ≠ (v485 : Value).ownBlock ∧ some k_ ≠ ((.slice Ao89 t497.length co89) : Value).ownBlock) (.slice Ao88 t496.length co88) t496) ∧ Aside0 (Kd.R (Kd.int .i64) 3 wc w.heap.size (fun k_=>some k_ ≠ (v485 : Value).ownBlock) (.slice Ao89 t497.length co89) t497) ∧ Aside0 (Below w.heap.size w wc))
            case first => as_aux_lemma =>
             have H:=HC172.out;clear HC172
             by_cases c173 : (t483.length : Int) = t491
             rotate_left
             · as_aux_lemma =>
               rw [if_neg c173] at H
               have c173b0 : ((t483.length : Int) == t491) = false:=beq_eq_false_iff_ne.mpr c173
               have c173b1 : ((t483.length : Int) != t491) = true:=bne_iff_ne.mpr c173
               (first|rw [c173b0]|(simp only [i64_w,i32_w];rw [c173b0])|skip)
               have H':=zI H;clear H
               obtain ⟨Ao181,co181,eo181⟩:=Kd.R_slice HO_35.out
               subst eo181
               go_wp2
               repeat (go_quiet (fail);try go_wp2)
               go_meet
               case rel=>exact ⟨_,(true),(by first|rfl|(simp;done)|(simp [*];done)),H',⟨by have:=HJ9.out;have:=HJ31.out;have:=HJ74.out;have:=HJ134.out;have:=HJ152.out;first|omega|exact Nat.le_refl _⟩,⟨by (with_reducible repeat (first|apply zN|apply zO|apply zP));exact HO_35.out⟩,⟨by (with_reducible repeat (first|apply Kd.S_alloc|apply Kd.S_drewN|apply Kd.S_drew));exact HO_44.out⟩,⟨by (with_reducible repeat (first|apply zN|apply zO|apply zP));exact HO_45.out⟩,⟨by repeat (first|(with_reducible first|exact HB.out|apply zJ|apply zG|apply zH)|exact HB.out)⟩⟩
             rw [if_pos c173] at H
             have c173b0 : ((t483.length : Int) == t491) = true:=beq_iff_eq.mpr c173
             have c173b1 : ((t483.length : Int) != t491) = false:=bne_eq_false_iff_eq.mpr c173
             clear c173
             (first|rw [c173b0]|(simp only [i64_w,i32_w];rw [c173b0])|skip)
             replace H:=Option.bind_eq_some_iff.mp H
             obtain ⟨t518,A1740,H⟩:=H
             (try dsimp only at H);have A174:=zI A1740;clear A1740
             by_cases c175 : t518 = t480
             rotate_left
             · as_aux_lemma =>
               rw [if_neg c175] at H
               have c175b0 : (t518 == t480) = false:=beq_eq_false_iff_ne.mpr c175
               have c175b1 : (t518 != t480) = true:=bne_iff_ne.mpr c175
               have H':=zI H;clear H
               obtain ⟨Ao180,co180,eo180⟩:=Kd.R_slice HO_35.out
               subst eo180
               go_wp2_with (first|(go_at_call 11;(with_reducible refine (laws_xSum.calls kj152 _ _ t483 t518 _ ?side1 ?side2 A174.out).mono ?_);(case side1=>repeat (first|exact (zM HO_35.out).2.2|(with_reducible refine zQ ?_ _)|(with_reducible refine zR ?_ _)|(with_reducible refine zS ?_)));(case side2=>exact (zM HO_35.out).2.1);rintro e w' ⟨rfl,⟨nd,rfl⟩⟩;(try first|exact ⟨rfl,_,zL _ _ _⟩|exact ⟨rfl,_,Eq.trans (zL _ _ _) (congrArg (World.drewN _) (Nat.add_assoc _ _ _))⟩)))
               repeat (go_quiet (first|(go_at_call 11;(with_reducible refine (laws_xSum.calls kj152 _ _ t483 t518 _ ?side1 ?side2 A174.out).mono ?_);(case side1=>repeat (first|exact (zM HO_35.out).2.2|(with_reducible refine zQ ?_ _)|(with_reducible refine zR ?_ _)|(with_reducible refine zS ?_)));(case side2=>exact (zM HO_35.out).2.1);rintro e w' ⟨rfl,⟨nd,rfl⟩⟩;(try first|exact ⟨rfl,_,zL _ _ _⟩|exact ⟨rfl,_,Eq.trans (zL _ _ _) (congrArg (World.drewN _) (Nat.add_assoc _ _ _))⟩)));try go_wp2_with (first|(go_at_call 11;(with_reducible refine (laws_xSum.calls kj152 _ _ t483 t518 _ ?side1 ?side2 A174.out).mono ?_);(case side1=>repeat (first|exact (zM HO_35.out).2.2|(with_reducible refine zQ ?_ _)|(with_reducible refine zR ?_ _)|(with_reducible refine zS ?_)));(case side2=>exact (zM HO_35.out).2.1);rintro e w' ⟨rfl,⟨nd,rfl⟩⟩;(try first|exact ⟨rfl,_,zL _ _ _⟩|exact ⟨rfl,_,Eq.trans (zL _ _ _) (congrArg (World.drewN _) (Nat.add_assoc _ _ _))⟩))))
               go_meet
               case rel=>exact ⟨_,(true),(by first|rfl|(simp;done)|(simp [*];done)),H',⟨by have:=HJ9.out;have:=HJ31.out;have:=HJ74.out;have:=HJ134.out;have:=HJ152.out;first|omega|exact Nat.le_refl _⟩,⟨by (with_reducible repeat (first|apply zN|apply zO|apply zP));exact HO_35.out⟩,⟨by (with_reducible repeat (first|apply Kd.S_alloc|apply Kd.S_drewN|apply Kd.S_drew));exact HO_44.out⟩,⟨by (with_reducible repeat (first|apply zN|apply zO|apply zP));exact HO_45.out⟩,⟨by repeat (first|(with_reducible first|exact HB.out|apply zJ|apply zG|apply zH)|exact HB.out)⟩⟩
             rw [if_pos c175] at H
             have c175b0 : (t518 == t480) = true:=beq_iff_eq.mpr c175
             have c175b1 : (t518 != t480) = false:=bne_eq_false_iff_eq.mpr c175
             clear c175
             obtain ⟨ji176,hji176⟩ : ∃ j_ : Int,(wrap64 ((t483.length : Int) - 1)) = j_:=⟨_,rfl⟩
             replace H : (if 0 ≤ (ji176) then (if (ji176) < (t483.length : Int) then (laws_FnReadersPlan.j10 kj152 t480 t481 t482 t483 t495 t496 t497 t502 t503 (decide ((rd t483 (ji176)) < 1))) else (none)) else (none)) = some r:=by first|(rw [hji176] at H;exact H)|(simp only [hji176] at H ⊢;exact H)
             (try rw [hji176] at A174)
             have hji176w : (IntKind.i64.wrap ((t483.length : Int) - 1)) = ji176:=(i64_w _).trans hji176
             by_cases c177 : 0 ≤ (ji176)
             rotate_left
             · rw [if_neg c177] at H
               exact absurd H (by simp)
             rw [if_pos c177] at H
             have c177b0 : decide (0 ≤ (ji176)) = true:=decide_eq_true c177
             clear c177
             by_cases c178 : (ji176) < (t483.length : Int)
             rotate_left
             · rw [if_neg c178] at H
               exact absurd H (by simp)
             rw [if_pos c178] at H
             have c178b0 : decide ((ji176) < (t483.length : Int)) = true:=decide_eq_true c178
             clear c178;have H':=zI H;clear H
             obtain ⟨Ao179,co179,eo179⟩:=Kd.R_slice HO_35.out
             subst eo179
             go_wp2_with (first|(go_at_call 11;(with_reducible refine (laws_xSum.calls kj152 _ _ t483 t518 _ ?side1 ?side2 A174.out).mono ?_);(case side1=>repeat (first|exact (zM HO_35.out).2.2|(with_reducible refine zQ ?_ _)|(with_reducible refine zR ?_ _)|(with_reducible refine zS ?_)));(case side2=>exact (zM HO_35.out).2.1);rintro e w' ⟨rfl,⟨nd,rfl⟩⟩;(try first|exact ⟨rfl,_,zL _ _ _⟩|exact ⟨rfl,_,Eq.trans (zL _ _ _) (congrArg (World.drewN _) (Nat.add_assoc _ _ _))⟩);have p519 : 0 ≤ ((ji176) : Int):=of_decide_eq_true (by first|(with_reducible assumption)|assumption);have q519 : (ji176) < (t483.length : Int):=of_decide_eq_true (by first|(with_reducible assumption)|assumption);obtain ⟨ad519,e519,hx519_0⟩:=Kd.at_int (zM HO_35.out).2.2 (ji176) p519 q519;cases e519;replace p519:=eq_true p519;replace q519:=eq_true q519))
             repeat (go_quiet (first|(go_at_call 11;(with_reducible refine (laws_xSum.calls kj152 _ _ t483 t518 _ ?side1 ?side2 A174.out).mono ?_);(case side1=>repeat (first|exact (zM HO_35.out).2.2|(with_reducible refine zQ ?_ _)|(with_reducible refine zR ?_ _)|(with_reducible refine zS ?_)));(case side2=>exact (zM HO_35.out).2.1);rintro e w' ⟨rfl,⟨nd,rfl⟩⟩;(try first|exact ⟨rfl,_,zL _ _ _⟩|exact ⟨rfl,_,Eq.trans (zL _ _ _) (congrArg (World.drewN _) (Nat.add_assoc _ _ _))⟩);have p519 : 0 ≤ ((ji176) : Int):=of_decide_eq_true (by first|(with_reducible assumption)|assumption);have q519 : (ji176) < (t483.length : Int):=of_decide_eq_true (by first|(with_reducible assumption)|assumption);obtain ⟨ad519,e519,hx519_0⟩:=Kd.at_int (zM HO_35.out).2.2 (ji176) p519 q519;cases e519;replace p519:=eq_true p519;replace q519:=eq_true q519));try go_wp2_with (first|(go_at_call 11;(with_reducible refine (laws_xSum.calls kj152 _ _ t483 t518 _ ?side1 ?side2 A174.out).mono ?_);(case side1=>repeat (first|exact (zM HO_35.out).2.2|(with_reducible refine zQ ?_ _)|(with_reducible refine zR ?_ _)|(with_reducible refine zS ?_)));(case side2=>exact (zM HO_35.out).2.1);rintro e w' ⟨rfl,⟨nd,rfl⟩⟩;(try first|exact ⟨rfl,_,zL _ _ _⟩|exact ⟨rfl,_,Eq.trans (zL _ _ _) (congrArg (World.drewN _) (Nat.add_assoc _ _ _))⟩);have p519 : 0 ≤ ((ji176) : Int):=of_decide_eq_true (by first|(with_reducible assumption)|assumption);have q519 : (ji176) < (t483.length : Int):=of_decide_eq_true (by first|(with_reducible assumption)|assumption);obtain ⟨ad519,e519,hx519_0⟩:=Kd.at_int (zM HO_35.out).2.2 (ji176) p519 q519;cases e519;replace p519:=eq_true p519;replace q519:=eq_true q519)))
             go_meet
             case rel=>exact ⟨_,(decide ((rd t483 (ji176)) < 1)),(by first|rfl|(simp;done)|(simp only [← hji176] <;> (first|rfl|simp))|(simp [*];done)),H',⟨by have:=HJ9.out;have:=HJ31.out;have:=HJ74.out;have:=HJ134.out;have:=HJ152.out;first|omega|exact Nat.le_refl _⟩,⟨by (with_reducible repeat (first|apply zN|apply zO|apply zP));exact HO_35.out⟩,⟨by (with_reducible repeat (first|apply Kd.S_alloc|apply Kd.S_drewN|apply Kd.S_drew));exact HO_44.out⟩,⟨by (with_reducible repeat (first|apply zN|apply zO|apply zP));exact HO_45.out⟩,⟨by repeat (first|(with_reducible first|exact HB.out|apply zJ|apply zG|apply zH)|exact HB.out)⟩⟩
            case rest => as_aux_lemma =>
             clear HC172
             (try clear c1);(try clear c2);(try clear p2);(try clear c3);(try clear c4);(try clear p4);(try clear q4);(try clear hx4);(try clear qi4);(try clear c5);(try clear p5);(try clear q5);(try clear hx5);(try clear c6);(try clear p6);(try clear c9);(try clear c10);(try clear c11);(try clear c13);(try clear c14);(try clear c15);(try clear c15b0);(try clear c15b1);(try clear c15b2);(try clear c16);(try clear c17);(try clear c18);(try clear c18b0);(try clear c18b1);(try clear c18b2);(try clear c21);(try clear c21b0);(try clear c21b1);(try clear c22);(try clear c31);(try clear c33);(try clear c35);(try clear c35b0);(try clear c35b1);(try clear c39);(try clear c41);(try clear c41b0);(try clear c42);(try clear c42b0);(try clear c43);(try clear c43b0);(try clear c44);(try clear c44b0);(try clear c45);(try clear c45b0);(try clear c45b1);(try clear p45);(try clear q45);(try clear hx45);(try clear qi45);(try clear c46);(try clear c46b0);(try clear p46);(try clear q46);(try clear hx46);(try clear qi46);(try clear c47);(try clear c47b0);(try clear c48);(try clear c48b0);(try clear c50);(try clear c50b0);(try clear p50);(try clear q50);(try clear hx50);(try clear c51);(try clear c51b0);(try clear p51);(try clear q51);(try clear hx51);(try clear c52);(try clear c52b0);(try clear c53);(try clear c54);(try clear c54b0);(try clear c54b1);(try clear c55);(try clear c55b0);(try clear c56);(try clear c56b0);(try clear c57);(try clear c57b0);(try clear c57b1);(try clear c58);(try clear c58b0);(try clear c58b1);(try clear c59);(try clear c59b0);(try clear c60);(try clear c60b0);(try clear p64);(try clear c90);(try clear c90b0);(try clear c90b1);(try clear c90b2);(try clear c92);(try clear c93);(try clear c93b0);(try clear c93b1);(try clear c93b2);(try clear c96);(try clear c96b0);(try clear c96b1);(try clear c97);(try clear c97b0);(try clear c97b1);(try clear c97b2);(try clear c101);(try clear c102);(try clear c102b0);(try clear c102b1);(try clear c102b2);(try clear c107);(try clear c107b0);(try clear c107b1);(try clear c108);(try clear c108b0);(try clear c108b1);(try clear c108b2);(try clear c113);(try clear c113b0);(try clear c113b1);(try clear c134);(try clear c136);(try clear c139);(try clear c139b0);(try clear c139b1);(try clear c142);(try clear c144);(try clear c144b0);(try clear c145);(try clear c145b0);(try clear c146);(try clear c146b0);(try clear c147);(try clear c147b0);(try clear c148);(try clear c148b0);(try clear c148b1);(try clear c149);(try clear c149b0);(try clear c150);(try clear c150b0);(try clear c151);(try clear c151b0);(try clear c152);(try clear c152b0);(try clear c154);(try clear c158);(try clear c160);(try clear c161);(try clear c161b0);(try clear c163);(try clear c164);(try clear c164b0);(try clear c171);(try clear c173);(try clear c173b0);(try clear c173b1);(try clear c175);(try clear c175b0);(try clear c175b1);(try clear c177);(try clear c177b0);(try clear c178);(try clear c178b0);(try clear hx454_0);(try clear hx455_0);(try clear hx456_0);(try clear hx457_0);(try clear hx458_0);(try clear hx459_0);(try clear hx460_0);(try clear hx461_0);(try clear hx509_0);(try clear hx519_0);(try clear p2);(try clear p4);(try clear p45);(try clear p454);(try clear p455);(try clear p456);(try clear p457);(try clear p458);(try clear p459);(try clear p46);(try clear p460);(try clear p461);(try clear p5);(try clear p50);(try clear p509);(try clear p519);(try clear p6);(try clear p64);(try clear q4);(try clear q45);(try clear q454);(try clear q455);(try clear q456);(try clear q457);(try clear q458);(try clear q459);(try clear q46);(try clear q460);(try clear q461);(try clear q5);(try clear q50);(try clear q509);(try clear q519)
             obtain ⟨kq,x458_171,rfl,HA,HJ171,HO_35,HO_44,HO_45,HB⟩:=hcut
             cases kq with
             | zero=>exact absurd HA.out (by simp [laws_FnReadersPlan.j10])
             | succ kj171 =>
              have H:=HA.out;clear HA
              simp only [laws_FnReadersPlan.j10] at H
              by_cases c182 : x458_171 = true
              · as_aux_lemma =>
                subst c182
                have H1 : (some false) = some r:=by rw [if_pos rfl] at H;exact H
                clear H;have H:=H1;clear H1
                obtain rfl:=Option.some.inj H
                go_wp2
                repeat (go_quiet (fail);try go_wp2)
                go_ret
                exact ⟨by first|rfl|(simp [errW_none,errW_some] <;> rfl)|(simp [*,errW_none,errW_some] <;> rfl),by repeat (first|(with_reducible first|exact HB.out|apply zJ|apply zG|apply zH)|exact HB.out)⟩
              replace c182:=Bool.eq_false_iff.mpr c182
              subst c182
              have H1 : (laws_FnReadersPlan.l2 kj171 t481 t482 t495 t496 t497 t502 t503 t480 t483 (t483.length : Int) 0) = some r:=by rw [if_neg (show ¬ (false = true) by decide)] at H;exact H
              clear H;have H:=H1;clear H1;have H':=zI H;clear H
              obtain ⟨Ao183,co183,eo183⟩:=Kd.R_slice HO_35.out
              subst eo183
              go_wp2
              repeat (go_quiet (fail);try go_wp2)
              go_loopg [56,462] kj171 (fun kq v56 v462 w'=>∃ (x56_7 : Int) (x462_7 : Int),v56 = .int .i64 x56_7 ∧ v462 = .int .i64 x462_7 ∧ Aside0 (laws_FnReadersPlan.l2 kq t481 t482 t495 t496 t497 t502 t503 x56_7 t483 (t483.length : Int) x462_7 = some r) ∧ Aside0 (kq ≤ kj171) ∧ Aside0 (Kd.S (Kd.slice 3 (Kd.int .i64)) 26 w' w.heap.size (fun k_=>some k_ ≠ ((.slice Ao89 t497.length co89) : Value).ownBlock ∧ some k_ ≠ ((.slice Ao183 t483.length co183) : Value).ownBlock) (.slice Ao88 t496.length co88) t496) ∧ Aside0 (Kd.R (Kd.int .i64) 3 w' w.heap.size (fun k_=>some k_ ≠ ((.slice Ao183 t483.length co183) : Value).ownBlock) (.slice Ao89 t497.length co89) t497) ∧ Aside0 (Kd.R (Kd.int .i64) 3 w' w.heap.size (fun k_=>some k_ ≠ ((.slice Ao89 t497.length co89) : Value).ownBlock) (.slice Ao183 t483.length co183) t483) ∧ Aside0 (Below w.heap.size w w'))
              case atStart=>exact ⟨(t480),(0),(by first|rfl|(simp;done)|(simp [*];done)),(by first|rfl|(simp;done)|(simp [*];done)),H',⟨Nat.le_refl _⟩,⟨by (with_reducible repeat (first|apply Kd.S_alloc|apply Kd.S_drewN|apply Kd.S_drew));exact Kd.S_mono HO_44.out (fun _ hk=>⟨hk.2,hk.1⟩)⟩,⟨by (with_reducible repeat (first|apply zN|apply zO|apply zP));exact HO_45.out⟩,⟨by (with_reducible repeat (first|apply zN|apply zO|apply zP));exact HO_35.out⟩,⟨by repeat (first|(with_reducible first|exact HB.out|apply zJ|apply zG|apply zH)|exact HB.out)⟩⟩
              case round =>
               clear H'
               (try clear c1);(try clear c2);(try clear p2);(try clear c3);(try clear c4);(try clear p4);(try clear q4);(try clear hx4);(try clear qi4);(try clear c5);(try clear p5);(try clear q5);(try clear hx5);(try clear c6);(try clear p6);(try clear c9);(try clear c10);(try clear c11);(try clear c13);(try clear c14);(try clear c15);(try clear c15b0);(try clear c15b1);(try clear c15b2);(try clear c16);(try clear c17);(try clear c18);(try clear c18b0);(try clear c18b1);(try clear c18b2);(try clear c21);(try clear c21b0);(try clear c21b1);(try clear c22);(try clear c31);(try clear c33);(try clear c35);(try clear c35b0);(try clear c35b1);(try clear c39);(try clear c41);(try clear c41b0);(try clear c42);(try clear c42b0);(try clear c43);(try clear c43b0);(try clear c44);(try clear c44b0);(try clear c45);(try clear c45b0);(try clear c45b1);(try clear p45);(try clear q45);(try clear hx45);(try clear qi45);(try clear c46);(try clear c46b0);(try clear p46);(try clear q46);(try clear hx46);(try clear qi46);(try clear c47);(try clear c47b0);(try clear c48);(try clear c48b0);(try clear c50);(try clear c50b0);(try clear p50);(try clear q50);(try clear hx50);(try clear c51);(try clear c51b0);(try clear p51);(try clear q51);(try clear hx51);(try clear c52);(try clear c52b0);(try clear c53);(try clear c54);(try clear c54b0);(try clear c54b1);(try clear c55);(try clear c55b0);(try clear c56);(try clear c56b0);(try clear c57);(try clear c57b0);(try clear c57b1);(try clear c58);(try clear c58b0);(try clear c58b1);(try clear c59);(try clear c59b0);(try clear c60);(try clear c60b0);(try clear p64);(try clear c90);(try clear c90b0);(try clear c90b1);(try clear c90b2);(try clear c92);(try clear c93);(try clear c93b0);(try clear c93b1);(try clear c93b2);(try clear c96);(try clear c96b0);(try clear c96b1);(try clear c97);(try clear c97b0);(try clear c97b1);(try clear c97b2);(try clear c101);(try clear c102);(try clear c102b0);(try clear c102b1);(try clear c102b2);(try clear c107);(try clear c107b0);(try clear c107b1);(try clear c108);(try clear c108b0);(try clear c108b1);(try clear c108b2);(try clear c113);(try clear c113b0);(try clear c113b1);(try clear c134);(try clear c136);(try clear c139);(try clear c139b0);(try clear c139b1);(try clear c142);(try clear c144);(try clear c144b0);(try clear c145);(try clear c145b0);(try clear c146);(try clear c146b0);(try clear c147);(try clear c147b0);(try clear c148);(try clear c148b0);(try clear c148b1);(try clear c149);(try clear c149b0);(try clear c150);(try clear c150b0);(try clear c151);(try clear c151b0);(try clear c152);(try clear c152b0);(try clear c154);(try clear c158);(try clear c160);(try clear c161);(try clear c161b0);(try clear c163);(try clear c164);(try clear c164b0);(try clear c171);(try clear c173);(try clear c173b0);(try clear c173b1);(try clear c175);(try clear c175b0);(try clear c175b1);(try clear c177);(try clear c177b0);(try clear c178);(try clear c178b0);(try clear c182);(try clear hx454_0);(try clear hx455_0);(try clear hx456_0);(try clear hx457_0);(try clear hx458_0);(try clear hx459_0);(try clear hx460_0);(try clear hx461_0);(try clear hx509_0);(try clear hx519_0);(try clear p2);(try clear p4);(try clear p45);(try clear p454);(try clear p455);(try clear p456);(try clear p457);(try clear p458);(try clear p459);(try clear p46);(try clear p460);(try clear p461);(try clear p5);(try clear p50);(try clear p509);(try clear p51);(try clear p519);(try clear p6);(try clear p64);(try clear q4);(try clear q45);(try clear q454);(try clear q455);(try clear q456);(try clear q457);(try clear q458);(try clear q459);(try clear q46);(try clear q460);(try clear q461);(try clear q5);(try clear q50);(try clear q509);(try clear q51);(try clear q519)
               obtain ⟨x56_7,x462_7,rfl,rfl,HA,HK7,HO_44,HO_45,HO_460,HB⟩:=hrel
               cases gk with
               | zero=>exact absurd HA.out (by simp [laws_FnReadersPlan.l2])
               | succ k7 =>
                have H:=HA.out;clear HA
                simp only [laws_FnReadersPlan.l2] at H
                by_cases c184 : x462_7 < (t483.length : Int)
                rotate_left
                · as_aux_lemma =>
                  rw [if_neg c184] at H
                  have c184b0 : decide (x462_7 < (t483.length : Int)) = false:=decide_eq_false c184
                  clear c184;have H':=zI H;clear H
                  go_wp2
                  repeat (go_quiet (fail);try go_wp2)
                  go_meet
                  case rel=>exact ⟨_,H',⟨by have:=HJ9.out;have:=HJ31.out;have:=HJ74.out;have:=HJ134.out;have:=HJ152.out;have:=HJ171.out;have:=HK7.out;first|omega|exact Nat.le_refl _⟩,⟨by (with_reducible repeat (first|apply Kd.S_alloc|apply Kd.S_drewN|apply Kd.S_drew));exact Kd.S_mono HO_44.out (fun _ hk=>hk.1)⟩,⟨by (with_reducible repeat (first|apply zN|apply zO|apply zP));exact Kd.R_mono HO_45.out (fun _ hk=>trivial)⟩,⟨by repeat (first|(with_reducible first|exact HB.out|apply zJ|apply zG|apply zH)|exact HB.out)⟩⟩
                rw [if_pos c184] at H
                have c184b0 : decide (x462_7 < (t483.length : Int)) = true:=decide_eq_true c184
                clear c184
                by_cases c185 : 0 ≤ x462_7
                rotate_left
                · rw [if_neg c185] at H
                  exact absurd H (by simp)
                rw [if_pos c185] at H
                have c185b0 : decide (0 ≤ x462_7) = true:=decide_eq_true c185
                clear c185
                by_cases c186 : x462_7 < (t483.length : Int)
                rotate_left
                · rw [if_neg c186] at H
                  exact absurd H (by simp)
                rw [if_pos c186] at H
                have c186b0 : decide (x462_7 < (t483.length : Int)) = true:=decide_eq_true c186
                clear c186
                by_cases c187 : (wrap64 ((rd t483 x462_7) * t482)) < (wrap64 (x56_7 * t481))
                · as_aux_lemma =>
                  rw [if_pos c187] at H
                  have c187b0 : decide ((wrap64 ((rd t483 x462_7) * t482)) < (wrap64 (x56_7 * t481))) = true:=decide_eq_true c187
                  clear c187
                  obtain rfl:=Option.some.inj H
                  have p520 : 0 ≤ (x462_7 : Int):=of_decide_eq_true (by first|(with_reducible assumption)|assumption)
                  have q520 : x462_7 < (t483.length : Int):=of_decide_eq_true (by first|(with_reducible assumption)|assumption)
                  obtain ⟨ad520,e520,hx520_0⟩:=Kd.at_int (zM HO_460.out).2.2 x462_7 p520 q520
                  cases e520
                  replace p520:=eq_true p520
                  replace q520:=eq_true q520
                  go_wp2
                  repeat (go_quiet (fail);try go_wp2)
                  go_ret
                  exact ⟨by first|rfl|(simp [errW_none,errW_some] <;> rfl)|(simp [*,errW_none,errW_some] <;> rfl),by repeat (first|(with_reducible first|exact HB.out|apply zJ|apply zG|apply zH)|exact HB.out)⟩
                rw [if_neg c187] at H
                have c187b0 : decide ((wrap64 ((rd t483 x462_7) * t482)) < (wrap64 (x56_7 * t481))) = false:=decide_eq_false c187
                clear c187
                by_cases c188 : (wrap64 ((wrap64 ((rd t483 x462_7) - 1)) * t482)) ≥ (wrap64 (x56_7 * t481))
                · as_aux_lemma =>
                  rw [if_pos c188] at H
                  have c188b0 : decide ((wrap64 (x56_7 * t481)) ≤ (wrap64 ((wrap64 ((rd t483 x462_7) - 1)) * t482))) = true:=decide_eq_true c188
                  clear c188
                  obtain rfl:=Option.some.inj H
                  have p520 : 0 ≤ (x462_7 : Int):=of_decide_eq_true (by first|(with_reducible assumption)|assumption)
                  have q520 : x462_7 < (t483.length : Int):=of_decide_eq_true (by first|(with_reducible assumption)|assumption)
                  obtain ⟨ad520,e520,hx520_0⟩:=Kd.at_int (zM HO_460.out).2.2 x462_7 p520 q520
                  cases e520
                  replace p520:=eq_true p520
                  replace q520:=eq_true q520
                  go_wp2
                  repeat (go_quiet (fail);try go_wp2)
                  go_ret
                  exact ⟨by first|rfl|(simp [errW_none,errW_some] <;> rfl)|(simp [*,errW_none,errW_some] <;> rfl),by repeat (first|(with_reducible first|exact HB.out|apply zJ|apply zG|apply zH)|exact HB.out)⟩
                rw [if_neg c188] at H
                have c188b0 : decide ((wrap64 (x56_7 * t481)) ≤ (wrap64 ((wrap64 ((rd t483 x462_7) - 1)) * t482))) = false:=decide_eq_false c188
                clear c188;have H':=zI H;clear H
                have p520 : 0 ≤ (x462_7 : Int):=of_decide_eq_true (by first|(with_reducible assumption)|assumption)
                have q520 : x462_7 < (t483.length : Int):=of_decide_eq_true (by first|(with_reducible assumption)|assumption)
                obtain ⟨ad520,e520,hx520_0⟩:=Kd.at_int (zM HO_460.out).2.2 x462_7 p520 q520
                cases e520
                replace p520:=eq_true p520
                replace q520:=eq_true q520
                go_wp2
                repeat (go_quiet (fail);try go_wp2)
                go_roundg k7
                case measure=>have:=HJ9.out;have:=HJ31.out;have:=HJ74.out;have:=HJ134.out;have:=HJ152.out;have:=HJ171.out;have:=HK7.out;omega
                case rel=>exact ⟨(wrap64 (x56_7 - (rd t483 x462_7))),(wrap64 (x462_7 + 1)),(by first|rfl|(simp;done)|(simp [*];done)),(by first|rfl|(simp;done)|(simp [*];done)),H',⟨by have:=HJ9.out;have:=HJ31.out;have:=HJ74.out;have:=HJ134.out;have:=HJ152.out;have:=HJ171.out;have:=HK7.out;omega⟩,⟨by (with_reducible repeat (first|apply Kd.S_alloc|apply Kd.S_drewN|apply Kd.S_drew));exact HO_44.out⟩,⟨by (with_reducible repeat (first|apply zN|apply zO|apply zP));exact HO_45.out⟩,⟨by (with_reducible repeat (first|apply zN|apply zO|apply zP));exact HO_460.out⟩,⟨by repeat (first|(with_reducible first|exact HB.out|apply zJ|apply zG|apply zH)|exact HB.out)⟩⟩
           case rest => as_aux_lemma =>
            clear HC170
            (try clear c1);(try clear c2);(try clear p2);(try clear c3);(try clear c4);(try clear p4);(try clear q4);(try clear hx4);(try clear qi4);(try clear c5);(try clear p5);(try clear q5);(try clear hx5);(try clear c6);(try clear p6);(try clear c9);(try clear c10);(try clear c11);(try clear c13);(try clear c14);(try clear c15);(try clear c15b0);(try clear c15b1);(try clear c15b2);(try clear c16);(try clear c17);(try clear c18);(try clear c18b0);(try clear c18b1);(try clear c18b2);(try clear c21);(try clear c21b0);(try clear c21b1);(try clear c22);(try clear c31);(try clear c33);(try clear c35);(try clear c35b0);(try clear c35b1);(try clear c39);(try clear c41);(try clear c41b0);(try clear c42);(try clear c42b0);(try clear c43);(try clear c43b0);(try clear c44);(try clear c44b0);(try clear c45);(try clear c45b0);(try clear c45b1);(try clear p45);(try clear q45);(try clear hx45);(try clear qi45);(try clear c46);(try clear c46b0);(try clear p46);(try clear q46);(try clear hx46);(try clear qi46);(try clear c47);(try clear c47b0);(try clear c48);(try clear c48b0);(try clear c50);(try clear c50b0);(try clear p50);(try clear q50);(try clear hx50);(try clear c51);(try clear c51b0);(try clear p51);(try clear q51);(try clear hx51);(try clear c52);(try clear c52b0);(try clear p52);(try clear q52);(try clear hx52);(try clear c53);(try clear c54);(try clear c54b0);(try clear c54b1);(try clear c55);(try clear c55b0);(try clear c56);(try clear c56b0);(try clear c57);(try clear c57b0);(try clear c57b1);(try clear c58);(try clear c58b0);(try clear c58b1);(try clear c59);(try clear c59b0);(try clear c60);(try clear c60b0);(try clear p64);(try clear c90);(try clear c90b0);(try clear c90b1);(try clear c90b2);(try clear c92);(try clear c93);(try clear c93b0);(try clear c93b1);(try clear c93b2);(try clear c96);(try clear c96b0);(try clear c96b1);(try clear c97);(try clear c97b0);(try clear c97b1);(try clear c97b2);(try clear c101);(try clear c102);(try clear c102b0);(try clear c102b1);(try clear c102b2);(try clear c107);(try clear c107b0);(try clear c107b1);(try clear c108);(try clear c108b0);(try clear c108b1);(try clear c108b2);(try clear c113);(try clear c113b0);(try clear c113b1);(try clear c134);(try clear c136);(try clear c139);(try clear c139b0);(try clear c139b1);(try clear c142);(try clear c144);(try clear c144b0);(try clear c145);(try clear c145b0);(try clear c146);(try clear c146b0);(try clear c147);(try clear c147b0);(try clear c148);(try clear c148b0);(try clear c148b1);(try clear c149);(try clear c149b0);(try clear c150);(try clear c150b0);(try clear c151);(try clear c151b0);(try clear c152);(try clear c152b0);(try clear c154);(try clear c158);(try clear c160);(try clear c161);(try clear c161b0);(try clear c163);(try clear c164);(try clear c164b0);(try clear c171);(try clear c173);(try clear c173b0);(try clear c173b1);(try clear c175);(try clear c175b0);(try clear c175b1);(try clear c177);(try clear c177b0);(try clear c178);(try clear c178b0);(try clear c182);(try clear c184);(try clear c184b0);(try clear c185);(try clear c185b0);(try clear c186);(try clear c186b0);(try clear c187);(try clear c187b0);(try clear c188);(try clear c188b0);(try clear hx454_0);(try clear hx455_0);(try clear hx456_0);(try clear hx457_0);(try clear hx458_0);(try clear hx459_0);(try clear hx460_0);(try clear hx461_0);(try clear hx509_0);(try clear hx519_0);(try clear hx520_0);(try clear p2);(try clear p4);(try clear p45);(try clear p454);(try clear p455);(try clear p456);(try clear p457);(try clear p458);(try clear p459);(try clear p46);(try clear p460);(try clear p461);(try clear p5);(try clear p50);(try clear p509);(try clear p51);(try clear p519);(try clear p520);(try clear p6);(try clear p64);(try clear q4);(try clear q45);(try clear q454);(try clear q455);(try clear q456);(try clear q457);(try clear q458);(try clear q459);(try clear q46);(try clear q460);(try clear q461);(try clear q5);(try clear q50);(try clear q509);(try clear q51);(try clear q519);(try clear q520)
            obtain ⟨kq,HA,HJ169,HO_44,HO_45,HB⟩:=hcut
            cases kq with
            | zero=>exact absurd HA.out (by simp [laws_FnReadersPlan.j12])
            | succ kj169 =>
             have H:=HA.out;clear HA
             simp only [laws_FnReadersPlan.j12] at H
             by_cases c189 : t503 = true
             rotate_left
             · as_aux_lemma =>
               replace c189:=Bool.eq_false_iff.mpr c189
               subst c189
               have H1 : (some true) = some r:=by rw [if_neg (show ¬ (false = true) by decide)] at H;exact H
               clear H;have H:=H1;clear H1
               obtain rfl:=Option.some.inj H
               go_wp2
               repeat (go_quiet (fail);try go_wp2)
               go_ret
               exact ⟨by first|rfl|(simp [errW_none,errW_some] <;> rfl)|(simp [*,errW_none,errW_some] <;> rfl),by repeat (first|(with_reducible first|exact HB.out|apply zJ|apply zG|apply zH)|exact HB.out)⟩
             subst c189
             have H1 : (laws_FnReadersPlan.l3 kj169 t495 t497 t502 t502 t496 (t496.length : Int) 0) = some r:=by rw [if_pos rfl] at H;exact H
             clear H;have H:=H1;clear H1;have H':=zI H;clear H
             go_wp2
             repeat (go_quiet (fail);try go_wp2)
             go_loopg [59,491] kj169 (fun kq v59 v491 w'=>∃ (x59_7 : Int) (x491_7 : Int),v59 = .int .i64 x59_7 ∧ v491 = .int .i64 x491_7 ∧ Aside0 (laws_FnReadersPlan.l3 kq t495 t497 t502 x59_7 t496 (t496.length : Int) x491_7 = some r) ∧ Aside0 (kq ≤ kj169) ∧ Aside0 (Kd.R (Kd.int .i64) 3 w' w.heap.size (fun _=>True) (.slice Ao89 t497.length co89) t497) ∧ Aside0 (Kd.S (Kd.slice 3 (Kd.int .i64)) 26 w' w.heap.size (fun k_=>some k_ ≠ ((.slice Ao89 t497.length co89) : Value).ownBlock) (.slice Ao88 t496.length co88) t496) ∧ Aside0 (Below w.heap.size w w'))
             case atStart=>exact ⟨(t502),(0),(by first|rfl|(simp;done)|(simp [*];done)),(by first|rfl|(simp;done)|(simp [*];done)),H',⟨Nat.le_refl _⟩,⟨by (with_reducible repeat (first|apply zN|apply zO|apply zP));exact HO_45.out⟩,⟨by (with_reducible repeat (first|apply Kd.S_alloc|apply Kd.S_drewN|apply Kd.S_drew));exact HO_44.out⟩,⟨by repeat (first|(with_reducible first|exact HB.out|apply zJ|apply zG|apply zH)|exact HB.out)⟩⟩
             case round =>
              clear H'
              (try clear c1);(try clear c2);(try clear p2);(try clear c3);(try clear c4);(try clear p4);(try clear q4);(try clear hx4);(try clear qi4);(try clear c5);(try clear p5);(try clear q5);(try clear hx5);(try clear c6);(try clear p6);(try clear c9);(try clear c10);(try clear c11);(try clear c13);(try clear c14);(try clear c15);(try clear c15b0);(try clear c15b1);(try clear c15b2);(try clear c16);(try clear c17);(try clear c18);(try clear c18b0);(try clear c18b1);(try clear c18b2);(try clear c21);(try clear c21b0);(try clear c21b1);(try clear c22);(try clear c31);(try clear c33);(try clear c35);(try clear c35b0);(try clear c35b1);(try clear c39);(try clear c41);(try clear c41b0);(try clear c42);(try clear c42b0);(try clear c43);(try clear c43b0);(try clear c44);(try clear c44b0);(try clear c45);(try clear c45b0);(try clear c45b1);(try clear p45);(try clear q45);(try clear hx45);(try clear qi45);(try clear c46);(try clear c46b0);(try clear p46);(try clear q46);(try clear hx46);(try clear qi46);(try clear c47);(try clear c47b0);(try clear c48);(try clear c48b0);(try clear c50);(try clear c50b0);(try clear p50);(try clear q50);(try clear hx50);(try clear c51);(try clear c51b0);(try clear p51);(try clear q51);(try clear hx51);(try clear c52);(try clear c52b0);(try clear p52);(try clear q52);(try clear hx52);(try clear c53);(try clear c54);(try clear c54b0);(try clear c54b1);(try clear c55);(try clear c55b0);(try clear c56);(try clear c56b0);(try clear c57);(try clear c57b0);(try clear c57b1);(try clear c58);(try clear c58b0);(try clear c58b1);(try clear c59);(try clear c59b0);(try clear c60);(try clear c60b0);(try clear p64);(try clear c90);(try clear c90b0);(try clear c90b1);(try clear c90b2);(try clear c92);(try clear c93);(try clear c93b0);(try clear c93b1);(try clear c93b2);(try clear c96);(try clear c96b0);(try clear c96b1);(try clear c97);(try clear c97b0);(try clear c97b1);(try clear c97b2);(try clear c101);(try clear c102);(try clear c102b0);(try clear c102b1);(try clear c102b2);(try clear c107);(try clear c107b0);(try clear c107b1);(try clear c108);(try clear c108b0);(try clear c108b1);(try clear c108b2);(try clear c113);(try clear c113b0);(try clear c113b1);(try clear c134);(try clear c136);(try clear c139);(try clear c139b0);(try clear c139b1);(try clear c142);(try clear c144);(try clear c144b0);(try clear c145);(try clear c145b0);(try clear c146);(try clear c146b0);(try clear c147);(try clear c147b0);(try clear c148);(try clear c148b0);(try clear c148b1);(try clear c149);(try clear c149b0);(try clear c150);(try clear c150b0);(try clear c151);(try clear c151b0);(try clear c152);(try clear c152b0);(try clear c154);(try clear c158);(try clear c160);(try clear c161);(try clear c161b0);(try clear c163);(try clear c164);(try clear c164b0);(try clear c171);(try clear c173);(try clear c173b0);(try clear c173b1);(try clear c175);(try clear c175b0);(try clear c175b1);(try clear c177);(try clear c177b0);(try clear c178);(try clear c178b0);(try clear c182);(try clear c184);(try clear c184b0);(try clear c185);(try clear c185b0);(try clear c186);(try clear c186b0);(try clear c187);(try clear c187b0);(try clear c188);(try clear c188b0);(try clear c189);(try clear hx454_0);(try clear hx455_0);(try clear hx456_0);(try clear hx457_0);(try clear hx458_0);(try clear hx459_0);(try clear hx460_0);(try clear hx461_0);(try clear hx509_0);(try clear hx519_0);(try clear hx520_0);(try clear p2);(try clear p4);(try clear p45);(try clear p454);(try clear p455);(try clear p456);(try clear p457);(try clear p458);(try clear p459);(try clear p46);(try clear p460);(try clear p461);(try clear p5);(try clear p50);(try clear p509);(try clear p51);(try clear p519);(try clear p52);(try clear p520);(try clear p6);(try clear p64);(try clear q4);(try clear q45);(try clear q454);(try clear q455);(try clear q456);(try clear q457);(try clear q458);(try clear q459);(try clear q46);(try clear q460);(try clear q461);(try clear q5);(try clear q50);(try clear q509);(try clear q51);(try clear q519);(try clear q52);(try clear q520)
              obtain ⟨x59_7,x491_7,rfl,rfl,HA,HK7,HO_45,HO_489,HB⟩:=hrel
              cases gk with
              | zero=>exact absurd HA.out (by simp [laws_FnReadersPlan.l3])
              | succ k7 =>
               have H:=HA.out;clear HA
               simp only [laws_FnReadersPlan.l3] at H
               by_cases c190 : x491_7 < (t496.length : Int)
               rotate_left
               · as_aux_lemma =>
                 rw [if_neg c190] at H
                 have c190b0 : decide (x491_7 < (t496.length : Int)) = false:=decide_eq_false c190
                 clear c190
                 by_cases c198 : x59_7 = t495
                 rotate_left
                 · as_aux_lemma =>
                   rw [if_neg c198] at H
                   have c198b0 : (x59_7 == t495) = false:=beq_eq_false_iff_ne.mpr c198
                   have c198b1 : (x59_7 != t495) = true:=bne_iff_ne.mpr c198
                   obtain rfl:=Option.some.inj H
                   go_wp2
                   repeat (go_quiet (fail);try go_wp2)
                   go_ret
                   exact ⟨by first|rfl|(simp [errW_none,errW_some] <;> rfl)|(simp [*,errW_none,errW_some] <;> rfl),by repeat (first|(with_reducible first|exact HB.out|apply zJ|apply zG|apply zH)|exact HB.out)⟩
                 rw [if_pos c198] at H
                 have c198b0 : (x59_7 == t495) = true:=beq_iff_eq.mpr c198
                 have c198b1 : (x59_7 != t495) = false:=bne_eq_false_iff_eq.mpr c198
                 clear c198
                 by_cases c199 : t502 > 2000
                 · as_aux_lemma =>
                   rw [if_pos c199] at H
                   have c199b0 : decide (2000 < t502) = true:=decide_eq_true c199
                   clear c199
                   obtain rfl:=Option.some.inj H
                   go_wp2
                   repeat (go_quiet (fail);try go_wp2)
                   go_ret
                   exact ⟨by first|rfl|(simp [errW_none,errW_some] <;> rfl)|(simp [*,errW_none,errW_some] <;> rfl),by repeat (first|(with_reducible first|exact HB.out|apply zJ|apply zG|apply zH)|exact HB.out)⟩
                 rw [if_neg c199] at H
                 have c199b0 : decide (2000 < t502) = false:=decide_eq_false c199
                 clear c199
                 by_cases c200 : t502 < t495
                 · as_aux_lemma =>
                   rw [if_pos c200] at H
                   have c200b0 : decide (t502 < t495) = true:=decide_eq_true c200
                   clear c200
                   obtain rfl:=Option.some.inj H
                   go_wp2
                   repeat (go_quiet (fail);try go_wp2)
                   go_ret
                   exact ⟨by first|rfl|(simp [errW_none,errW_some] <;> rfl)|(simp [*,errW_none,errW_some] <;> rfl),by repeat (first|(with_reducible first|exact HB.out|apply zJ|apply zG|apply zH)|exact HB.out)⟩
                 rw [if_neg c200] at H
                 have c200b0 : decide (t502 < t495) = false:=decide_eq_false c200
                 clear c200
                 obtain rfl:=Option.some.inj H
                 go_wp2
                 repeat (go_quiet (fail);try go_wp2)
                 go_ret
                 exact ⟨by first|rfl|(simp [errW_none,errW_some] <;> rfl)|(simp [*,errW_none,errW_some] <;> rfl),by repeat (first|(with_reducible first|exact HB.out|apply zJ|apply zG|apply zH)|exact HB.out)⟩
               rw [if_pos c190] at H
               have c190b0 : decide (x491_7 < (t496.length : Int)) = true:=decide_eq_true c190
               clear c190
               by_cases c191 : 0 ≤ x491_7
               rotate_left
               · rw [if_neg c191] at H
                 exact absurd H (by simp)
               rw [if_pos c191] at H
               have c191b0 : decide (0 ≤ x491_7) = true:=decide_eq_true c191
               clear c191
               by_cases c192 : x491_7 < (t496.length : Int)
               rotate_left
               · rw [if_neg c192] at H
                 exact absurd H (by simp)
               rw [if_pos c192] at H
               have c192b0 : decide (x491_7 < (t496.length : Int)) = true:=decide_eq_true c192
               clear c192
               by_cases c193 : 0 < ((rd_L2 t496 x491_7).length : Int)
               rotate_left
               · rw [if_neg c193] at H
                 exact absurd H (by simp)
               rw [if_pos c193] at H
               have c193b0 : decide (0 < ((rd_L2 t496 x491_7).length : Int)) = true:=decide_eq_true c193
               have c193b1 : decide (0 < (rd_L2 t496 x491_7).length) = true:=decide_eq_true (by omega)
               clear c193
               by_cases c194 : 1 < ((rd_L2 t496 x491_7).length : Int)
               rotate_left
               · rw [if_neg c194] at H
                 exact absurd H (by simp)
               rw [if_pos c194] at H
               have c194b0 : decide (1 < ((rd_L2 t496 x491_7).length : Int)) = true:=decide_eq_true c194
               have c194b1 : decide (1 < (rd_L2 t496 x491_7).length) = true:=decide_eq_true (by omega)
               clear c194
               by_cases c195 : (rd (rd_L2 t496 x491_7) 1) = 0
               · rw [if_pos c195] at H
                 exact absurd H (by simp)
               rw [if_neg c195] at H
               have c195b0 : ((rd (rd_L2 t496 x491_7) 1) == 0) = false:=beq_eq_false_iff_ne.mpr c195
               have c195b1 : ((rd (rd_L2 t496 x491_7) 1) != 0) = true:=bne_iff_ne.mpr c195
               by_cases c196 : (Int.tmod (wrap64 (x59_7 * (rd (rd_L2 t496 x491_7) 0))) (rd (rd_L2 t496 x491_7) 1)) = 0
               rotate_left
               · as_aux_lemma =>
                 rw [if_neg c196] at H
                 have c196b0 : ((Int.tmod (wrap64 (x59_7 * (rd (rd_L2 t496 x491_7) 0))) (rd (rd_L2 t496 x491_7) 1)) == 0) = false:=beq_eq_false_iff_ne.mpr c196
                 have c196b1 : ((Int.tmod (wrap64 (x59_7 * (rd (rd_L2 t496 x491_7) 0))) (rd (rd_L2 t496 x491_7) 1)) != 0) = true:=bne_iff_ne.mpr c196
                 obtain rfl:=Option.some.inj H
                 have p521 : 0 ≤ (x491_7 : Int):=of_decide_eq_true (by first|(with_reducible assumption)|assumption)
                 have q521 : x491_7 < (t496.length : Int):=of_decide_eq_true (by first|(with_reducible assumption)|assumption)
                 obtain ⟨ad521,A521_0,c521_0,e521,hx521_0,hl521_0,hi521_0⟩:=at_L2 (Kd.S_reads' HO_489.out).2.2 x491_7 p521 q521
                 cases e521
                 obtain ⟨ce521,hce521,hMe521,hcc521⟩:=Kd.S_get HO_489.out [] x491_7 p521 (by first|exact q521|exact of_decide_eq_true (by first|(with_reducible assumption)|assumption)|(have e_:=(Kd.S_reads' HO_489.out).1;omega))
                 obtain ⟨ve521_0,rfl,ge521_0⟩:=hMe521
                 have hv521_0:=hcc521 0 _ rfl
                 rw [Nat.add_zero,show ((Kd.slice 3 (Kd.int .i64))).sz = 1 from rfl,Nat.mul_one] at hv521_0
                 replace hv521_0:=Option.some.inj (hv521_0.symm.trans hx521_0)
                 rw [hv521_0] at ge521_0
                 have HL521_0:=zI (show Kd.R (Kd.int .i64) 3 _ _ _ _ (rd_L2 t496 x491_7) from ge521_0)
                 clear hv521_0 ge521_0 hcc521 hce521;have HR521_0:=zI hi521_0;have HC521_0:=zI hl521_0;clear hi521_0 hl521_0
                 replace p521:=eq_true p521
                 replace q521:=eq_true q521
                 have p522 : 0 ≤ (0 : Int):=(by omega)
                 have q522 : 0 < ((rd_L2 t496 x491_7).length : Int):=of_decide_eq_true (by first|(with_reducible assumption)|assumption)
                 obtain ⟨ad522,e522,hx522_0⟩:=Kd.at_int (by repeat (first|(with_reducible exact HR521_0.out)|(with_reducible refine zQ ?_ _)|(with_reducible refine zR ?_ _)|(with_reducible refine zS ?_)|exact HR521_0.out)) 0 p522 q522
                 cases e522
                 have qi522 : (0 < (rd_L2 t496 x491_7).length) = True:=eq_true (by omega)
                 (try rw [show ((0 : Int)).toNat = 0 from rfl] at hx522_0);(try rw [Addr.add_zero'] at hx522_0)
                 replace p522:=eq_true p522
                 replace q522:=eq_true q522
                 have p523 : 0 ≤ (1 : Int):=(by omega)
                 have q523 : 1 < ((rd_L2 t496 x491_7).length : Int):=of_decide_eq_true (by first|(with_reducible assumption)|assumption)
                 obtain ⟨ad523,e523,hx523_0⟩:=Kd.at_int (by repeat (first|(with_reducible exact HR521_0.out)|(with_reducible refine zQ ?_ _)|(with_reducible refine zR ?_ _)|(with_reducible refine zS ?_)|exact HR521_0.out)) 1 p523 q523
                 obtain rfl : ad522 = ad523:=(by injection e523)
                 (try simp only [show (1 : Int).toNat = 1 from rfl,Nat.reduceMul,Nat.reduceEqDiff,Go.Addr.add,↓reduceIte] at hx523_0)
                 have qi523 : (1 < (rd_L2 t496 x491_7).length) = True:=eq_true (by omega)
                 (try rw [show ((1 : Int)).toNat = 1 from rfl] at hx523_0)
                 replace p523:=eq_true p523
                 replace q523:=eq_true q523
                 go_wp2
                 repeat (go_quiet (fail);try go_wp2)
                 go_ret
                 exact ⟨by first|rfl|(simp [errW_none,errW_some] <;> rfl)|(simp [*,errW_none,errW_some] <;> rfl),by repeat (first|(with_reducible first|exact HB.out|apply zJ|apply zG|apply zH)|exact HB.out)⟩
               rw [if_pos c196] at H
               have c196b0 : ((Int.tmod (wrap64 (x59_7 * (rd (rd_L2 t496 x491_7) 0))) (rd (rd_L2 t496 x491_7) 1)) == 0) = true:=beq_iff_eq.mpr c196
               have c196b1 : ((Int.tmod (wrap64 (x59_7 * (rd (rd_L2 t496 x491_7) 0))) (rd (rd_L2 t496 x491_7) 1)) != 0) = false:=bne_eq_false_iff_eq.mpr c196
               clear c196
               by_cases c197 : x491_7 < (t497.length : Int)
               rotate_left
               · rw [if_neg c197] at H
                 exact absurd H (by simp)
               rw [if_pos c197] at H
               have c197b0 : decide (x491_7 < (t497.length : Int)) = true:=decide_eq_true c197
               clear c197;have H':=zI H;clear H
               have p521 : 0 ≤ (x491_7 : Int):=of_decide_eq_true (by first|(with_reducible assumption)|assumption)
               have q521 : x491_7 < (t496.length : Int):=of_decide_eq_true (by first|(with_reducible assumption)|assumption)
               obtain ⟨ad521,A521_0,c521_0,e521,hx521_0,hl521_0,hi521_0⟩:=at_L2 (Kd.S_reads' HO_489.out).2.2 x491_7 p521 q521
               cases e521
               obtain ⟨ce521,hce521,hMe521,hcc521⟩:=Kd.S_get HO_489.out [] x491_7 p521 (by first|exact q521|exact of_decide_eq_true (by first|(with_reducible assumption)|assumption)|(have e_:=(Kd.S_reads' HO_489.out).1;omega))
               obtain ⟨ve521_0,rfl,ge521_0⟩:=hMe521
               have hv521_0:=hcc521 0 _ rfl
               rw [Nat.add_zero,show ((Kd.slice 3 (Kd.int .i64))).sz = 1 from rfl,Nat.mul_one] at hv521_0
               replace hv521_0:=Option.some.inj (hv521_0.symm.trans hx521_0)
               rw [hv521_0] at ge521_0
               have HL521_0:=zI (show Kd.R (Kd.int .i64) 3 _ _ _ _ (rd_L2 t496 x491_7) from ge521_0)
               clear hv521_0 ge521_0 hcc521 hce521;have HR521_0:=zI hi521_0;have HC521_0:=zI hl521_0;clear hi521_0 hl521_0
               replace p521:=eq_true p521
               replace q521:=eq_true q521
               have p522 : 0 ≤ (0 : Int):=(by omega)
               have q522 : 0 < ((rd_L2 t496 x491_7).length : Int):=of_decide_eq_true (by first|(with_reducible assumption)|assumption)
               obtain ⟨ad522,e522,hx522_0⟩:=Kd.at_int (by repeat (first|(with_reducible exact HR521_0.out)|(with_reducible refine zQ ?_ _)|(with_reducible refine zR ?_ _)|(with_reducible refine zS ?_)|exact HR521_0.out)) 0 p522 q522
               cases e522
               have qi522 : (0 < (rd_L2 t496 x491_7).length) = True:=eq_true (by omega)
               (try rw [show ((0 : Int)).toNat = 0 from rfl] at hx522_0);(try rw [Addr.add_zero'] at hx522_0)
               replace p522:=eq_true p522
               replace q522:=eq_true q522
               have p523 : 0 ≤ (1 : Int):=(by omega)
               have q523 : 1 < ((rd_L2 t496 x491_7).length : Int):=of_decide_eq_true (by first|(with_reducible assumption)|assumption)
               obtain ⟨ad523,e523,hx523_0⟩:=Kd.at_int (by repeat (first|(with_reducible exact HR521_0.out)|(with_reducible refine zQ ?_ _)|(with_reducible refine zR ?_ _)|(with_reducible refine zS ?_)|exact HR521_0.out)) 1 p523 q523
               obtain rfl : ad522 = ad523:=(by injection e523)
               (try simp only [show (1 : Int).toNat = 1 from rfl,Nat.reduceMul,Nat.reduceEqDiff,Go.Addr.add,↓reduceIte] at hx523_0)
               have qi523 : (1 < (rd_L2 t496 x491_7).length) = True:=eq_true (by omega)
               (try rw [show ((1 : Int)).toNat = 1 from rfl] at hx523_0)
               replace p523:=eq_true p523
               replace q523:=eq_true q523
               have p524 : 0 ≤ (0 : Int):=(by omega)
               have q524 : 0 < ((rd_L2 t496 x491_7).length : Int):=of_decide_eq_true (by first|(with_reducible assumption)|assumption)
               obtain ⟨ad524,e524,hx524_0⟩:=Kd.at_int (by repeat (first|(with_reducible exact HR521_0.out)|(with_reducible refine zQ ?_ _)|(with_reducible refine zR ?_ _)|(with_reducible refine zS ?_)|exact HR521_0.out)) 0 p524 q524
               obtain rfl : ad522 = ad524:=(by injection e524)
               have qi524 : (0 < (rd_L2 t496 x491_7).length) = True:=eq_true (by omega)
               (try rw [show ((0 : Int)).toNat = 0 from rfl] at hx524_0);(try rw [Addr.add_zero'] at hx524_0)
               replace p524:=eq_true p524
               replace q524:=eq_true q524
               have p525 : 0 ≤ (1 : Int):=(by omega)
               have q525 : 1 < ((rd_L2 t496 x491_7).length : Int):=of_decide_eq_true (by first|(with_reducible assumption)|assumption)
               obtain ⟨ad525,e525,hx525_0⟩:=Kd.at_int (by repeat (first|(with_reducible exact HR521_0.out)|(with_reducible refine zQ ?_ _)|(with_reducible refine zR ?_ _)|(with_reducible refine zS ?_)|exact HR521_0.out)) 1 p525 q525
               obtain rfl : ad522 = ad525:=(by injection e525)
               (try simp only [show (1 : Int).toNat = 1 from rfl,Nat.reduceMul,Nat.reduceEqDiff,Go.Addr.add,↓reduceIte] at hx525_0)
               have qi525 : (1 < (rd_L2 t496 x491_7).length) = True:=eq_true (by omega)
               (try rw [show ((1 : Int)).toNat = 1 from rfl] at hx525_0)
               replace p525:=eq_true p525
               replace q525:=eq_true q525
               have p526 : 0 ≤ (x491_7 : Int):=of_decide_eq_true (by first|(with_reducible assumption)|assumption)
               have q526 : x491_7 < (t497.length : Int):=of_decide_eq_true (by first|(with_reducible assumption)|assumption)
               obtain ⟨ad526,e526,hx526_0⟩:=Kd.at_int (zM HO_45.out).2.2 x491_7 p526 q526
               cases e526
               replace p526:=eq_true p526
               replace q526:=eq_true q526
               go_wp2
               repeat (go_quiet (fail);try go_wp2)
               go_roundg k7
               case measure=>have:=HJ9.out;have:=HJ31.out;have:=HJ74.out;have:=HJ134.out;have:=HJ152.out;have:=HJ169.out;have:=HK7.out;omega
               case rel=>exact ⟨(wrap64 (x59_7 - (wrap64 ((wrap64 (Int.tdiv (wrap64 (x59_7 * (rd (rd_L2 t496 x491_7) 0))) (rd (rd_L2 t496 x491_7) 1))) + (rd t497 x491_7))))),(wrap64 (x491_7 + 1)),(by first|rfl|(simp;done)|(simp [*];done)),(by first|rfl|(simp;done)|(simp [*];done)),H',⟨by have:=HJ9.out;have:=HJ31.out;have:=HJ74.out;have:=HJ134.out;have:=HJ152.out;have:=HJ169.out;have:=HK7.out;omega⟩,⟨by (with_reducible repeat (first|apply zN|apply zO|apply zP));exact HO_45.out⟩,⟨by (with_reducible repeat (first|apply Kd.S_alloc|apply Kd.S_drewN|apply Kd.S_drew));exact HO_489.out⟩,⟨by repeat (first|(with_reducible first|exact HB.out|apply zJ|apply zG|apply zH)|exact HB.out)⟩⟩

/-- THE ONE PURE STATEMENT of laws_FnReadersPlan: yours. -/
def laws_FnReadersPlan.Pure : Prop := ∀ (l0 : List Int) (l1 : List Int), l0.length ≤ maxLen → l0.length * 1 ≤ 140737488351232 → (∀ x ∈ l0, (Lit.int .u8 x).wf = true) → l1.length ≤ maxLen → l1.length * 1 ≤ 140737488351232 → (∀ x ∈ l1, (Lit.int .u8 x).wf = true) → ∃ k, laws_FnReadersPlan.f k l0 l1 = some true
theorem laws_FnReadersPlan.walk (P : laws_FnReadersPlan.Pure) (a0 : Option Addr) (len0 cap0 : Nat) (z0 : List Int) (a1 : Option Addr) (len1 cap1 : Nat) (z1 : List Int) (w : World) (w0 : (a0 = none ∧ len0 = 0 ∧ cap0 = 0 ∧ z0 = []) ∨ ∃ x, a0 = some x ∧ len0 ≤ cap0 ∧ cap0 ≤ maxLen ∧ z0.length = cap0 ∧ (∀ i, i < z0.length → w.cell? (x.add i) = some (.int .u8 (z0.getD i 0))) ∧ ∀ n ∈ z0, (Lit.int .u8 n).wf = true) (y0 : len0 * 1 ≤ 140737488351232) (w1 : (a1 = none ∧ len1 = 0 ∧ cap1 = 0 ∧ z1 = []) ∨ ∃ x, a1 = some x ∧ len1 ≤ cap1 ∧ cap1 ≤ maxLen ∧ z1.length = cap1 ∧ (∀ i, i < z1.length → w.cell? (x.add i) = some (.int .u8 (z1.getD i 0))) ∧ ∀ n ∈ z1, (Lit.int .u8 n).wf = true) (y1 : len1 * 1 ≤ 140737488351232) :
    Calls Try.prog 3 #[.slice a0 len0 cap0, .slice a1 len1 cap1] w fun e w' => e = .returned (.bool true) ∧ Below w.heap.size w w' := by
  obtain ⟨l0, rfl, hr0, hm0, hw0, hc0⟩ := ReadsInt.ofRowC w0
  obtain ⟨l1, rfl, hr1, hm1, hw1, hc1⟩ := ReadsInt.ofRowC w1
  obtain ⟨k, h⟩ := P l0 l1 hm0 y0 hw0 hm1 y1 hw1
  refine (laws_FnReadersPlan.calls k _ _ l0 _ _ l1 true w (Kd.C_of_reads (d := (0 : Int)) (h1 := fun _ => rfl) hr0) hc0 (Kd.C_of_reads (d := (0 : Int)) (h1 := fun _ => rfl) hr1) hc1 h).mono ?_
  rintro e w' ⟨rfl, hd⟩
  exact ⟨rfl, hd⟩

end Go.Proofs.Ytllakpmepfeinaa.XFnReadersPlan
