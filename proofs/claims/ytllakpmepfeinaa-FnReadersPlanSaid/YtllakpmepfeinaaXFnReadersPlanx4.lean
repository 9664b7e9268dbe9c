-- Written by a program of this session: the machine side of the law FnReadersPlan, with contracts proved by hand for what the kit's print doesn't take. Lean checks it.
import Derived.Test.YtllakpmepfeinaaXFnReadersPlanx0
import Derived.Test.YtllakpmepfeinaaXFnReadersPlanx1
import Derived.Test.YtllakpmepfeinaaXFnReadersPlanx2
import Derived.Test.YtllakpmepfeinaaXFnReadersPlanx3
namespace Go.Proofs.Ytllakpmepfeinaa.XFnReadersPlan
open Go.RowKit Go.Proofs.YtllakpmepfeinaaW.PrintWords Go.Proofs.YtllakpmepfeinaaW.PrintLast Go.Proofs.YtllakpmepfeinaaW.PrintMore
attribute [local go_sem] max2_int min2_int max_two min_two max_three min_three max_four min_four   -- for this text's walks alone
set_option linter.unusedVariables false
set_option linter.unusedSimpArgs false

/-! ### impl_PartPlan: function 19 -/
mutual
def impl_PartPlan.j0 : Nat → Int → Int → Int → Bool → Option (List Int × Bool)
  | 0, _, _, _, _ => none
  | k + 1, x0, x1, x2, x19 => if x19 = true then (some (([] : List Int), false)) else (impl_PartPlan.l0 k x1 x2 (([] : List Int)) x0)
def impl_PartPlan.l0 : Nat → Int → Int → List Int → Int → Option (List Int × Bool)
  | 0, _, _, _, _ => none
  | k + 1, x1, x2, x8, x9 => if x9 > 0 then (if x2 = 0 then (none) else (if x8.length < 17592186044416 then (impl_PartPlan.l0 k x1 x2 (x8 ++ [wrap64 (Int.tdiv (wrap64 ((wrap64 ((wrap64 (x9 * x1)) + x2)) - 1)) x2)]) (wrap64 (x9 - (wrap64 (Int.tdiv (wrap64 ((wrap64 ((wrap64 (x9 * x1)) + x2)) - 1)) x2))))) else (none))) else (some (x8, true))
end
def impl_PartPlan.f (k : Nat) (a0 : Int) (a1 : Int) (a2 : Int) : Option (List Int × Bool) := (impl_isBook.f a0).bind fun t291 => (if t291 = true then ((impl_isPart.f a1 a2).bind fun t292 => (impl_PartPlan.j0 k a0 a1 a2 (!t292))) else (impl_PartPlan.j0 k a0 a1 a2 true))
theorem impl_PartPlan.mono_l : ∀ k, (∀ y0 y1 y2 y3, LeO (impl_PartPlan.j0 k y0 y1 y2 y3) (impl_PartPlan.j0 (k + 1) y0 y1 y2 y3)) ∧ (∀ y0 y1 y2 y3, LeO (impl_PartPlan.l0 k y0 y1 y2 y3) (impl_PartPlan.l0 (k + 1) y0 y1 y2 y3))
  | 0 => ⟨fun _ _ _ _ r h => by simp [impl_PartPlan.j0] at h, fun _ _ _ _ r h => by simp [impl_PartPlan.l0] at h⟩
  | k + 1 => by
    obtain ⟨ih0, ih1⟩ := impl_PartPlan.mono_l k
    refine ⟨?_, ?_⟩
    · intro y0 y1 y2 y3
      unfold impl_PartPlan.j0
      repeat' first
      | (with_reducible exact ih0 _ _ _ _)
      | (with_reducible exact ih1 _ _ _ _)
      | (with_reducible exact LeO.refl _)
      | (with_reducible exact LeO.none _)
      | (with_reducible refine LeO.ite ?_ ?_)
      | (with_reducible refine LeO.bind ?_ (fun _ => ?_))
      | exact ih0 _ _ _ _
      | exact ih1 _ _ _ _
      | exact LeO.none _
      | refine LeO.ite ?_ ?_
      | refine LeO.bind ?_ (fun _ => ?_)
    · intro y0 y1 y2 y3
      unfold impl_PartPlan.l0
      repeat' first
      | (with_reducible exact ih0 _ _ _ _)
      | (with_reducible exact ih1 _ _ _ _)
      | (with_reducible exact LeO.refl _)
      | (with_reducible exact LeO.none _)
      | (with_reducible refine LeO.ite ?_ ?_)
      | (with_reducible refine LeO.bind ?_ (fun _ => ?_))
      | exact ih0 _ _ _ _
      | exact ih1 _ _ _ _
      | exact LeO.none _
      | refine LeO.ite ?_ ?_
      | refine LeO.bind ?_ (fun _ => ?_)
theorem impl_PartPlan.mono : ∀ a0 a1 a2 k, LeO (impl_PartPlan.f k a0 a1 a2) (impl_PartPlan.f (k + 1) a0 a1 a2) := by
  intro a0 a1 a2 k
  obtain ⟨ih0, ih1⟩ := impl_PartPlan.mono_l k
  unfold impl_PartPlan.f
  repeat' first
      | (with_reducible exact ih0 _ _ _ _)
      | (with_reducible exact ih1 _ _ _ _)
      | (with_reducible exact LeO.refl _)
      | (with_reducible exact LeO.none _)
      | (with_reducible refine LeO.ite ?_ ?_)
      | (with_reducible refine LeO.bind ?_ (fun _ => ?_))
      | exact ih0 _ _ _ _
      | exact ih1 _ _ _ _
      | exact LeO.none _
      | refine LeO.ite ?_ ?_
      | refine LeO.bind ?_ (fun _ => ?_)
set_option maxHeartbeats 8000000 in
set_option maxRecDepth 100000 in
theorem impl_PartPlan.calls (k : Nat) (a0 : Int) (a1 : Int) (a2 : Int) (r1 : List Int) (r2 : Bool) (w : World) (h : impl_PartPlan.f k a0 a1 a2 = some (r1, r2)) :
    Calls Try.prog 19 #[.int .i64 a0, .int .i64 a1, .int .i64 a2] w fun e w' => ∃ v0_ : Value, e = .returned (.tuple #[v0_, .bool r2]) ∧ Kd.R (Kd.int .i64) 3 w' w.heap.size (fun _ => True) v0_ r1 ∧ Below w.heap.size w w' := by
 have HB:=zI (Below.refl w.heap.size w)
 have H : ((impl_isBook.f a0).bind fun t291=>(if t291 = true then ((impl_isPart.f a1 a2).bind fun t292=>(impl_PartPlan.j0 k a0 a1 a2 (!t292))) else (impl_PartPlan.j0 k a0 a1 a2 true))) = some (r1,r2):=h
 clear h;have HC4:=zI H;clear H
 go_enter Try.func19,Try.ntmps19
 go_upto_region 1 with (fail)
 go_cut [19] (fun v19 wc=>∃ (kq : Nat) (x19_3 : Bool),v19 = .bool x19_3 ∧ Aside0 (impl_PartPlan.j0 kq a0 a1 a2 x19_3 = some (r1,r2)) ∧ Aside0 (kq ≤ k) ∧ Aside0 (Below w.heap.size w wc))
 case first =>
  have H:=HC4.out;clear HC4;replace H:=Option.bind_eq_some_iff.mp H
  obtain ⟨t291,A50,H⟩:=H
  replace H : (if t291 = true then ((impl_isPart.f a1 a2).bind fun t292=>(impl_PartPlan.j0 k a0 a1 a2 (!t292))) else (impl_PartPlan.j0 k a0 a1 a2 true)) = some (r1,r2):=H
  have A5:=zI A50;clear A50
  by_cases c6 : t291 = true
  rotate_left
  · replace c6:=Bool.eq_false_iff.mpr c6
    subst c6
    have H1 : (impl_PartPlan.j0 k a0 a1 a2 true) = some (r1,r2):=by rw [if_neg (show ¬ (false = true) by decide)] at H;exact H
    clear H;have H:=H1;clear H1;have H':=zI H;clear H
    go_wp2_with (first|((with_reducible refine gate_callee (f:=32) rfl ?_);refine goesL_ (some 12) rfl rfl Try.func32 (by kernel_rfl) rfl #[.int .i64 a0] rfl (by (try simp only [List.map_toArray,List.map_cons,List.map_nil]);first|done|rfl|(simp only [List.length_drop,List.length_take];rfl)) ?_;(with_reducible refine (impl_isBook.calls a0 false _ A5.out).mono ?_);rintro e w' ⟨rfl,⟨nd,rfl⟩⟩;refine ⟨_,rfl,?_⟩))
    go_meet
    case rel=>exact ⟨_,(true),(by first|rfl|(simp;done)|(simp [*];done)),H',⟨by first|omega|exact Nat.le_refl _⟩,⟨by repeat (first|(with_reducible first|exact HB.out|apply zJ|apply zG|apply zH)|exact HB.out)⟩⟩
  subst c6
  have H1 : ((impl_isPart.f a1 a2).bind fun t292=>(impl_PartPlan.j0 k a0 a1 a2 (!t292))) = some (r1,r2):=by rw [if_pos rfl] at H;exact H
  clear H;have H:=H1;clear H1;replace H:=Option.bind_eq_some_iff.mp H
  obtain ⟨t292,A70,H⟩:=H
  replace H : (impl_PartPlan.j0 k a0 a1 a2 (!t292)) = some (r1,r2):=H
  have A7:=zI A70;clear A70;have H':=zI H;clear H
  go_wp2_with (first|((with_reducible refine gate_callee (f:=32) rfl ?_);refine goesL_ (some 12) rfl rfl Try.func32 (by kernel_rfl) rfl #[.int .i64 a0] rfl (by (try simp only [List.map_toArray,List.map_cons,List.map_nil]);first|done|rfl|(simp only [List.length_drop,List.length_take];rfl)) ?_;(with_reducible refine (impl_isBook.calls a0 true _ A5.out).mono ?_);rintro e w' ⟨rfl,⟨nd,rfl⟩⟩;refine ⟨_,rfl,?_⟩)|(go_at_call 42;(with_reducible refine (impl_isPart.calls a1 a2 t292 _ A7.out).mono ?_);rintro e w' ⟨rfl,⟨nd,rfl⟩⟩))
  go_meet
  case rel=>exact ⟨_,(!t292),(by first|rfl|(simp;done)|(simp [*];done)),H',⟨by first|omega|exact Nat.le_refl _⟩,⟨by repeat (first|(with_reducible first|exact HB.out|apply zJ|apply zG|apply zH)|exact HB.out)⟩⟩
 case rest =>
  clear HC4
  (try clear c1);(try clear p2);(try clear c3);(try clear c6)
  obtain ⟨kq,x19_3,rfl,HA,HJ3,HB⟩:=hcut
  cases kq with
  | zero=>exact absurd HA.out (by simp [impl_PartPlan.j0])
  | succ kj3 =>
   have H:=HA.out;clear HA
   simp only [impl_PartPlan.j0] at H
   by_cases c8 : x19_3 = true
   · subst c8
     have H1 : (some (([] : List Int),false)) = some (r1,r2):=by rw [if_pos rfl] at H;exact H
     clear H;have H:=H1;clear H1
     simp only [Option.some.injEq,Prod.mk.injEq] at H
     obtain ⟨rfl,rfl⟩:=H
     go_wp2
     go_ret2
     exact ⟨_,by first|rfl|(simp [errW_none,errW_some] <;> rfl)|(simp [*,errW_none,errW_some] <;> rfl),by first|exact Kd.R_nil _ _ _ _ _|exact Kd.N_nil _ _ _ _ _|exact Kd.V_nil _ _ _ _ _|exact Kd.Q_nil _ _ _ _ _|exact Kd.S_nil _ _ _ _ _,by repeat (first|(with_reducible first|exact HB.out|apply zJ|apply zG|apply zH)|exact HB.out)⟩
   replace c8:=Bool.eq_false_iff.mpr c8
   subst c8
   have H1 : (impl_PartPlan.l0 kj3 a1 a2 (([] : List Int)) a0) = some (r1,r2):=by rw [if_neg (show ¬ (false = true) by decide)] at H;exact H
   clear H;have H:=H1;clear H1
   obtain ⟨y293,hy293⟩ : ∃ y_ : List Int,y_ = (([] : List Int)):=⟨_,rfl⟩
   replace H : (impl_PartPlan.l0 kj3 a1 a2 y293 a0) = some (r1,r2):=by first|(rw [hy293];with_reducible exact H)|(have H2_:=(Option.bind_some _ _).symm.trans H;rw [hy293];with_reducible exact H2_)|(have H2_:=(Option.bind_some _ _).symm.trans H;with_reducible exact H2_)|with_reducible exact H|(rw [hy293];exact H)|exact H
   have Ny293:=zI hy293;clear hy293;have H':=zI H;clear H
   go_wp2_with (first|((with_reducible refine gate_dst (N:=20) rfl ?_);refine Kd.R_lit (Kd.int .i64) _ 3 ?hg (N:=20) ?hd (xs:=([] : List Int)) (inner:=[]) (ok:=fun _=>True) (okp:=fun _=>True) ?hr ?hp (fun _ hk=>hk) trivial (Below.refl _ _) (Nat.le_refl _) (by simp) ?_;(case hd=>rfl);(case hg=>rfl);(case hr=>first|(go_simp;done)|(go_simp;rfl));(case hp=>exact (Reps.none _ _));intro v294 w9 ho10 hb hg_ hnew_;clear hg_ hnew_;(first|rw [← Ny293.out] at ho10|(simp only [Int.reduceToNat] at ho10;rw [← Ny293.out] at ho10));have n0_:=zI (Kd.R_lower ho10 (below_size (by repeat (first|(with_reducible first|exact HB.out|apply zJ|apply zG|apply zH)|exact HB.out))));have n1_:=zI (below_step (by repeat (first|(with_reducible first|exact HB.out|apply zJ|apply zG|apply zH)|exact HB.out)) hb);clear HB;have HO295:=n0_;have HB:=n1_;clear n0_ n1_;clear hb ho10))
   go_loopg [8,9] kj3 (fun kq v8 v9 w'=>∃ (x8_2 : List Int) (x9_2 : Int),v9 = .int .i64 x9_2 ∧ Aside0 (impl_PartPlan.l0 kq a1 a2 x8_2 x9_2 = some (r1,r2)) ∧ Aside0 (kq ≤ kj3) ∧ Aside0 (Kd.R (Kd.int .i64) 3 w' w.heap.size (fun _=>True) v8 x8_2) ∧ Aside0 (Below w.heap.size w w'))
   case atStart=>exact ⟨(y293),(a0),(by first|rfl|(simp;done)|(simp [*];done)),H',⟨Nat.le_refl _⟩,⟨by (with_reducible repeat (first|apply zN|apply zO|apply zP));exact HO295.out⟩,⟨by repeat (first|(with_reducible first|exact HB.out|apply zJ|apply zG|apply zH)|exact HB.out)⟩⟩
   case round =>
    clear H'
    (try clear c1);(try clear p2);(try clear c3);(try clear c6);(try clear c8);(try clear p2)
    obtain ⟨x8_2,x9_2,rfl,HA,HK2,HO_8,HB⟩:=hrel
    cases gk with
    | zero=>exact absurd HA.out (by simp [impl_PartPlan.l0])
    | succ k2 =>
     have H:=HA.out;clear HA
     simp only [impl_PartPlan.l0] at H
     by_cases c11 : x9_2 > 0
     rotate_left
     · rw [if_neg c11] at H
       have c11b0 : decide (0 < x9_2) = false:=decide_eq_false c11
       clear c11
       simp only [Option.some.injEq,Prod.mk.injEq] at H
       obtain ⟨rfl,rfl⟩:=H
       go_wp2
       go_ret2
       exact ⟨_,by first|rfl|(simp [errW_none,errW_some] <;> rfl)|(simp [*,errW_none,errW_some] <;> rfl),by (with_reducible repeat (first|apply zN|apply zO|apply zP));exact HO_8.out,by repeat (first|(with_reducible first|exact HB.out|apply zJ|apply zG|apply zH)|exact HB.out)⟩
     rw [if_pos c11] at H
     have c11b0 : decide (0 < x9_2) = true:=decide_eq_true c11
     clear c11
     by_cases c12 : a2 = 0
     · rw [if_pos c12] at H
       exact absurd H (by simp)
     rw [if_neg c12] at H
     have c12b0 : (a2 == 0) = false:=beq_eq_false_iff_ne.mpr c12
     have c12b1 : (a2 != 0) = true:=bne_iff_ne.mpr c12
     by_cases c13 : x8_2.length < 17592186044416
     rotate_left
     · rw [if_neg c13] at H
       exact absurd H (by simp)
     rw [if_pos c13] at H
     have LMc13:=zI c13;clear c13
     obtain ⟨y296,hy296⟩ : ∃ y_ : List Int,y_ = (x8_2 ++ [wrap64 (Int.tdiv (wrap64 ((wrap64 ((wrap64 (x9_2 * a1)) + a2)) - 1)) a2)]):=⟨_,rfl⟩
     replace H : (impl_PartPlan.l0 k2 a1 a2 y296 (wrap64 (x9_2 - (wrap64 (Int.tdiv (wrap64 ((wrap64 ((wrap64 (x9_2 * a1)) + a2)) - 1)) a2))))) = some (r1,r2):=by first|(rw [hy296];with_reducible exact H)|(have H2_:=(Option.bind_some _ _).symm.trans H;rw [hy296];with_reducible exact H2_)|(have H2_:=(Option.bind_some _ _).symm.trans H;with_reducible exact H2_)|with_reducible exact H|(rw [hy296];exact H)|exact H
     have Ny296:=zI hy296;clear hy296;have H':=zI H;clear H
     go_wp2_with (first|((with_reducible refine gate_builtin (b:=.append) (xs:=#[.tmp 32,.tmp 34]) rfl ?_);at_builtin;refine Kd.R_append (Kd.int .i64) (w0:=w) w.heap.size rfl (.tmp 32) (.tmp 34) 26 3 (.int .i64 0) 8 rfl Try.underlying26 info3 rfl (by decide) (by omega) u8 x8_2 (wrap64 (Int.tdiv (wrap64 ((wrap64 ((wrap64 (x9_2 * a1)) + a2)) - 1)) a2)) [.int .i64 (wrap64 (Int.tdiv (wrap64 ((wrap64 ((wrap64 (x9_2 * a1)) + a2)) - 1)) a2))] (fun _=>True) (fun _=>False) rfl rfl ?aP (fun _ hk=>hk.elim) ?aF ?aO ?aB ?aS ?aL ?_;(case aP=>exact rfl);(case aB=>exact (by repeat (first|(with_reducible first|exact HB.out|apply zJ|apply zG|apply zH)|exact HB.out)));(case aF=>exact (fun _ _=>trivial));(case aO=>exact (by (with_reducible repeat (first|apply zN|apply zO|apply zP));exact HO_8.out));(case aS=>exact (below_size (by repeat (first|(with_reducible first|exact HB.out|apply zJ|apply zG|apply zH)|exact HB.out))));(case aL=>have:=LMc13.out;omega);intro v297 w14 ho hb hg hat;rw [← Ny296.out] at ho;have n0_:=zI (hb);have n1_:=zI (ho);clear HB;clear HO_8;have HB:=n0_;have HO298:=n1_;clear n0_ n1_;clear ho hb hg hat))
     go_roundg k2
     case measure=>have:=HJ3.out;have:=HK2.out;omega
     case rel=>exact ⟨(y296),(wrap64 (x9_2 - (wrap64 (Int.tdiv (wrap64 ((wrap64 ((wrap64 (x9_2 * a1)) + a2)) - 1)) a2)))),(by first|rfl|(simp;done)|(simp [*];done)),H',⟨by have:=HJ3.out;have:=HK2.out;omega⟩,⟨by (with_reducible repeat (first|apply zN|apply zO|apply zP));exact HO298.out⟩,⟨by repeat (first|(with_reducible first|exact HB.out|apply zJ|apply zG|apply zH)|exact HB.out)⟩⟩

/-! ### spec_rdPart: function 43 -/
def spec_rdPart.f (a0 : Int) (a1 : Int) : Option (Bool) := (spec_l1In.f a1 2 200).bind fun t299 => (if t299 = true then ((spec_l1In.f a0 1 (wrap64 (a1 - 1))).bind fun t300 => (some t300)) else (some false))
set_option maxHeartbeats 8000000 in
set_option maxRecDepth 100000 in
theorem spec_rdPart.calls (a0 : Int) (a1 : Int) (r : Bool) (w : World) (h : spec_rdPart.f a0 a1 = some r) :
    Calls Try.prog 43 #[.int .i64 a0, .int .i64 a1] w fun e w' => e = .returned (.bool r) ∧ Drawn0 w w' := by
  have H : ((spec_l1In.f a1 2 200).bind fun t299 => (if t299 = true then ((spec_l1In.f a0 1 (wrap64 (a1 - 1))).bind fun t300 => (some t300)) else (some false))) = some r := h
  clear h
  replace H := Option.bind_eq_some_iff.mp H
  obtain ⟨t299, A30, H⟩ := H
  replace H : (if t299 = true then ((spec_l1In.f a0 1 (wrap64 (a1 - 1))).bind fun t300 => (some t300)) else (some false)) = some r := H
  have A3 := Aside0.mk A30
  clear A30
  by_cases c4 : t299 = true
  · subst c4
    have H1 : ((spec_l1In.f a0 1 (wrap64 (a1 - 1))).bind fun t300 => (some t300)) = some r := by rw [if_pos rfl] at H; exact H
    clear H
    have H := H1
    clear H1
    replace H := Option.bind_eq_some_iff.mp H
    obtain ⟨t300, A50, H⟩ := H
    replace H : (some t300) = some r := H
    have A5 := Aside0.mk A50
    clear A50
    obtain rfl := Option.some.inj H
    go_enter Try.func43, Try.ntmps43
    go_wp2_with (first | ((with_reducible refine gate_callee (f := 37) rfl ?_); refine goesL_ (some 6) rfl rfl Try.func37 (by kernel_rfl) rfl #[.int .i64 a1, .int .i64 2, .int .i64 200] rfl (by (try simp only [List.map_toArray, List.map_cons, List.map_nil]); first | done | rfl | (simp only [List.length_drop, List.length_take]; rfl)) ?_; (with_reducible refine (spec_l1In.calls a1 2 200 true _ A3.out).mono ?_); rintro e w' ⟨rfl, ⟨nd, rfl⟩⟩; refine ⟨_, rfl, ?_⟩) | (go_at_call 37; (with_reducible refine (spec_l1In.calls a0 1 (wrap64 (a1 - 1)) t300 _ A5.out).mono ?_); rintro e w' ⟨rfl, ⟨nd, rfl⟩⟩))
    go_ret
    exact ⟨by first | rfl | (simp; done) | (simp [*]; done), by repeat (first | exact Drawn0.refl _ | apply Drawn0.step)⟩
  · replace c4 := Bool.eq_false_iff.mpr c4
    subst c4
    have H1 : (some false) = some r := by rw [if_neg (show ¬ (false = true) by decide)] at H; exact H
    clear H
    have H := H1
    clear H1
    obtain rfl := Option.some.inj H
    go_enter Try.func43, Try.ntmps43
    go_wp2_with (first | ((with_reducible refine gate_callee (f := 37) rfl ?_); refine goesL_ (some 6) rfl rfl Try.func37 (by kernel_rfl) rfl #[.int .i64 a1, .int .i64 2, .int .i64 200] rfl (by (try simp only [List.map_toArray, List.map_cons, List.map_nil]); first | done | rfl | (simp only [List.length_drop, List.length_take]; rfl)) ?_; (with_reducible refine (spec_l1In.calls a1 2 200 false _ A3.out).mono ?_); rintro e w' ⟨rfl, ⟨nd, rfl⟩⟩; refine ⟨_, rfl, ?_⟩))
    go_ret
    exact ⟨by first | rfl | (simp; done) | (simp [*]; done), by repeat (first | exact Drawn0.refl _ | apply Drawn0.step)⟩

/-! ### spec_rdParts: function 44 -/
def spec_rdParts.l0 : Nat → Int → Int → Int → List Int → Option (List Int)
  | 0, _, _, _, _ => none
  | k + 1, x0, x1, x2, x7 => if x0 > 0 then (if x2 = 0 then (none) else (if x7.length < 17592186044416 then (spec_rdParts.l0 k (wrap64 (x0 - (wrap64 (Int.tdiv (wrap64 ((wrap64 ((wrap64 (x0 * x1)) + x2)) - 1)) x2)))) x1 x2 (x7 ++ [wrap64 (Int.tdiv (wrap64 ((wrap64 ((wrap64 (x0 * x1)) + x2)) - 1)) x2)])) else (none))) else (some x7)
def spec_rdParts.f (k : Nat) (a0 : Int) (a1 : Int) (a2 : Int) : Option (List Int) := spec_rdParts.l0 k a0 a1 a2 ([] : List Int)
theorem spec_rdParts.mono_l : ∀ k, (∀ y0 y1 y2 y3, LeO (spec_rdParts.l0 k y0 y1 y2 y3) (spec_rdParts.l0 (k + 1) y0 y1 y2 y3))
  | 0 => fun _ _ _ _ r h => by simp [spec_rdParts.l0] at h
  | k + 1 => by
    have ih0 := spec_rdParts.mono_l k
    · intro y0 y1 y2 y3
      unfold spec_rdParts.l0
      repeat' first
      | (with_reducible exact ih0 _ _ _ _)
      | (with_reducible exact LeO.refl _)
      | (with_reducible exact LeO.none _)
      | (with_reducible refine LeO.ite ?_ ?_)
      | (with_reducible refine LeO.bind ?_ (fun _ => ?_))
      | exact ih0 _ _ _ _
      | exact LeO.none _
      | refine LeO.ite ?_ ?_
      | refine LeO.bind ?_ (fun _ => ?_)
theorem spec_rdParts.mono : ∀ a0 a1 a2 k, LeO (spec_rdParts.f k a0 a1 a2) (spec_rdParts.f (k + 1) a0 a1 a2) := by
  intro a0 a1 a2 k
  have ih0 := spec_rdParts.mono_l k
  unfold spec_rdParts.f
  repeat' first
      | (with_reducible exact ih0 _ _ _ _)
      | (with_reducible exact LeO.refl _)
      | (with_reducible exact LeO.none _)
      | (with_reducible refine LeO.ite ?_ ?_)
      | (with_reducible refine LeO.bind ?_ (fun _ => ?_))
      | exact ih0 _ _ _ _
      | exact LeO.none _
      | refine LeO.ite ?_ ?_
      | refine LeO.bind ?_ (fun _ => ?_)
set_option maxHeartbeats 8000000 in
set_option maxRecDepth 100000 in
theorem spec_rdParts.calls (k : Nat) (a0 : Int) (a1 : Int) (a2 : Int) (r : List Int) (w : World) (h : spec_rdParts.f k a0 a1 a2 = some r) :
    Calls Try.prog 44 #[.int .i64 a0, .int .i64 a1, .int .i64 a2] w fun e w' => ∃ v0_ : Value, e = .returned (v0_) ∧ Kd.R (Kd.int .i64) 3 w' w.heap.size (fun _ => True) v0_ r ∧ Below w.heap.size w w' := by
 have HB:=zI (Below.refl w.heap.size w)
 have H : (spec_rdParts.l0 k a0 a1 a2 ([] : List Int)) = some r:=h
 clear h;have H':=zI H;clear H
 go_enter Try.func44,Try.ntmps44
 go_wp2
 go_loopg [0,7] k (fun kq v0 v7 w'=>∃ (x0_1 : Int) (x7_1 : List Int),v0 = .int .i64 x0_1 ∧ Aside0 (spec_rdParts.l0 kq x0_1 a1 a2 x7_1 = some r) ∧ Aside0 (kq ≤ k) ∧ Aside0 (Kd.R (Kd.int .i64) 3 w' w.heap.size (fun _=>True) v7 x7_1) ∧ Aside0 (Below w.heap.size w w'))
 case atStart=>exact ⟨(a0),(([] : List Int)),(by first|rfl|(simp;done)|(simp [*];done)),H',⟨Nat.le_refl _⟩,⟨by first|exact Kd.R_nil _ _ _ _ _|exact Kd.N_nil _ _ _ _ _|exact Kd.V_nil _ _ _ _ _|exact Kd.Q_nil _ _ _ _ _|exact Kd.S_nil _ _ _ _ _⟩,⟨by repeat (first|(with_reducible first|exact HB.out|apply zJ|apply zG|apply zH)|exact HB.out)⟩⟩
 case round =>
  clear H'
  try clear p2
  obtain ⟨x0_1,x7_1,rfl,HA,HK1,HO_7,HB⟩:=hrel
  cases gk with
  | zero=>exact absurd HA.out (by simp [spec_rdParts.l0])
  | succ k1 =>
   have H:=HA.out;clear HA
   simp only [spec_rdParts.l0] at H
   by_cases c4 : x0_1 > 0
   rotate_left
   · rw [if_neg c4] at H
     have c4b0 : decide (0 < x0_1) = false:=decide_eq_false c4
     clear c4
     obtain rfl:=Option.some.inj H
     go_wp2
     go_ret
     exact ⟨_,by first|rfl|(simp [errW_none,errW_some] <;> rfl)|(simp [*,errW_none,errW_some] <;> rfl),by (with_reducible repeat (first|apply zN|apply zO|apply zP));exact HO_7.out,by repeat (first|(with_reducible first|exact HB.out|apply zJ|apply zG|apply zH)|exact HB.out)⟩
   rw [if_pos c4] at H
   have c4b0 : decide (0 < x0_1) = true:=decide_eq_true c4
   clear c4
   by_cases c5 : a2 = 0
   · rw [if_pos c5] at H
     exact absurd H (by simp)
   rw [if_neg c5] at H
   have c5b0 : (a2 == 0) = false:=beq_eq_false_iff_ne.mpr c5
   have c5b1 : (a2 != 0) = true:=bne_iff_ne.mpr c5
   by_cases c6 : x7_1.length < 17592186044416
   rotate_left
   · rw [if_neg c6] at H
     exact absurd H (by simp)
   rw [if_pos c6] at H
   have LMc6:=zI c6;clear c6
   obtain ⟨y301,hy301⟩ : ∃ y_ : List Int,y_ = (x7_1 ++ [wrap64 (Int.tdiv (wrap64 ((wrap64 ((wrap64 (x0_1 * a1)) + a2)) - 1)) a2)]):=⟨_,rfl⟩
   replace H : (spec_rdParts.l0 k1 (wrap64 (x0_1 - (wrap64 (Int.tdiv (wrap64 ((wrap64 ((wrap64 (x0_1 * a1)) + a2)) - 1)) a2)))) a1 a2 y301) = some r:=by first|(rw [hy301];with_reducible exact H)|(have H2_:=(Option.bind_some _ _).symm.trans H;rw [hy301];with_reducible exact H2_)|(have H2_:=(Option.bind_some _ _).symm.trans H;with_reducible exact H2_)|with_reducible exact H|(rw [hy301];exact H)|exact H
   have Ny301:=zI hy301;clear hy301;have H':=zI H;clear H
   go_wp2_with (first|((with_reducible refine gate_builtin (b:=.append) (xs:=#[.tmp 19,.tmp 21]) rfl ?_);at_builtin;refine Kd.R_append (Kd.int .i64) (w0:=w) w.heap.size rfl (.tmp 19) (.tmp 21) 26 3 (.int .i64 0) 8 rfl Try.underlying26 info3 rfl (by decide) (by omega) u7 x7_1 (wrap64 (Int.tdiv (wrap64 ((wrap64 ((wrap64 (x0_1 * a1)) + a2)) - 1)) a2)) [.int .i64 (wrap64 (Int.tdiv (wrap64 ((wrap64 ((wrap64 (x0_1 * a1)) + a2)) - 1)) a2))] (fun _=>True) (fun _=>False) rfl rfl ?aP (fun _ hk=>hk.elim) ?aF ?aO ?aB ?aS ?aL ?_;(case aP=>exact rfl);(case aB=>exact (by repeat (first|(with_reducible first|exact HB.out|apply zJ|apply zG|apply zH)|exact HB.out)));(case aF=>exact (fun _ _=>trivial));(case aO=>exact (by (with_reducible repeat (first|apply zN|apply zO|apply zP));exact HO_7.out));(case aS=>exact (below_size (by repeat (first|(with_reducible first|exact HB.out|apply zJ|apply zG|apply zH)|exact HB.out))));(case aL=>have:=LMc6.out;omega);intro v302 w7 ho hb hg hat;rw [← Ny301.out] at ho;have n0_:=zI (hb);have n1_:=zI (ho);clear HB;clear HO_7;have HB:=n0_;have HO303:=n1_;clear n0_ n1_;clear ho hb hg hat))
   go_roundg k1
   case measure=>have:=HK1.out;omega
   case rel=>exact ⟨(wrap64 (x0_1 - (wrap64 (Int.tdiv (wrap64 ((wrap64 ((wrap64 (x0_1 * a1)) + a2)) - 1)) a2)))),(y301),(by first|rfl|(simp;done)|(simp [*];done)),H',⟨by have:=HK1.out;omega⟩,⟨by (with_reducible repeat (first|apply zN|apply zO|apply zP));exact HO303.out⟩,⟨by repeat (first|(with_reducible first|exact HB.out|apply zJ|apply zG|apply zH)|exact HB.out)⟩⟩

/-! ### spec_PartPlan: function 20 -/
def spec_PartPlan.f (k : Nat) (a0 : Int) (a1 : Int) (a2 : Int) : Option (List Int × Bool) := (spec_bpBook.f a0).bind fun t304 => (if t304 = true then ((spec_rdPart.f a1 a2).bind fun t305 => (if t305 = true then ((spec_rdParts.f k a0 a1 a2).bind fun t306 => (some (t306, true))) else (some (([] : List Int), false)))) else (some (([] : List Int), false)))
theorem spec_PartPlan.mono : ∀ a0 a1 a2 k, LeO (spec_PartPlan.f k a0 a1 a2) (spec_PartPlan.f (k + 1) a0 a1 a2) := by
  intro a0 a1 a2 k
  unfold spec_PartPlan.f
  repeat' first
      | (with_reducible exact spec_rdParts.mono _ _ _ _)
      | (with_reducible exact LeO.refl _)
      | (with_reducible exact LeO.none _)
      | (with_reducible refine LeO.ite ?_ ?_)
      | (with_reducible refine LeO.bind ?_ (fun _ => ?_))
      | exact spec_rdParts.mono _ _ _ _
      | exact LeO.none _
      | refine LeO.ite ?_ ?_
      | refine LeO.bind ?_ (fun _ => ?_)
set_option maxHeartbeats 8000000 in
set_option maxRecDepth 100000 in
theorem spec_PartPlan.calls (k : Nat) (a0 : Int) (a1 : Int) (a2 : Int) (r1 : List Int) (r2 : Bool) (w : World) (h : spec_PartPlan.f k a0 a1 a2 = some (r1, r2)) :
    Calls Try.prog 20 #[.int .i64 a0, .int .i64 a1, .int .i64 a2] w fun e w' => ∃ v0_ : Value, e = .returned (.tuple #[v0_, .bool r2]) ∧ Kd.R (Kd.int .i64) 3 w' w.heap.size (fun _ => True) v0_ r1 ∧ Below w.heap.size w w' := by
 have HB:=zI (Below.refl w.heap.size w)
 have H : ((spec_bpBook.f a0).bind fun t304=>(if t304 = true then ((spec_rdPart.f a1 a2).bind fun t305=>(if t305 = true then ((spec_rdParts.f k a0 a1 a2).bind fun t306=>(some (t306,true))) else (some (([] : List Int),false)))) else (some (([] : List Int),false)))) = some (r1,r2):=h
 clear h;replace H:=Option.bind_eq_some_iff.mp H
 obtain ⟨t304,A40,H⟩:=H
 replace H : (if t304 = true then ((spec_rdPart.f a1 a2).bind fun t305=>(if t305 = true then ((spec_rdParts.f k a0 a1 a2).bind fun t306=>(some (t306,true))) else (some (([] : List Int),false)))) else (some (([] : List Int),false))) = some (r1,r2):=H
 have A4:=zI A40;clear A40
 by_cases c5 : t304 = true
 rotate_left
 · replace c5:=Bool.eq_false_iff.mpr c5
   subst c5
   have H1 : (some (([] : List Int),false)) = some (r1,r2):=by rw [if_neg (show ¬ (false = true) by decide)] at H;exact H
   clear H;have H:=H1;clear H1
   simp only [Option.some.injEq,Prod.mk.injEq] at H
   obtain ⟨rfl,rfl⟩:=H
   go_enter Try.func20,Try.ntmps20
   go_wp2_with (first|((with_reducible refine gate_callee (f:=36) rfl ?_);refine goesL_ (some 9) rfl rfl Try.func36 (by kernel_rfl) rfl #[.int .i64 a0] rfl (by (try simp only [List.map_toArray,List.map_cons,List.map_nil]);first|done|rfl|(simp only [List.length_drop,List.length_take];rfl)) ?_;(with_reducible refine (spec_bpBook.calls a0 false _ A4.out).mono ?_);rintro e w' ⟨rfl,⟨nd,rfl⟩⟩;refine ⟨_,rfl,?_⟩))
   go_ret2
   exact ⟨_,by first|rfl|(simp [errW_none,errW_some] <;> rfl)|(simp [*,errW_none,errW_some] <;> rfl),by first|exact Kd.R_nil _ _ _ _ _|exact Kd.N_nil _ _ _ _ _|exact Kd.V_nil _ _ _ _ _|exact Kd.Q_nil _ _ _ _ _|exact Kd.S_nil _ _ _ _ _,by repeat (first|(with_reducible first|exact HB.out|apply zJ|apply zG|apply zH)|exact HB.out)⟩
 subst c5
 have H1 : ((spec_rdPart.f a1 a2).bind fun t305=>(if t305 = true then ((spec_rdParts.f k a0 a1 a2).bind fun t306=>(some (t306,true))) else (some (([] : List Int),false)))) = some (r1,r2):=by rw [if_pos rfl] at H;exact H
 clear H;have H:=H1;clear H1;replace H:=Option.bind_eq_some_iff.mp H
 obtain ⟨t305,A60,H⟩:=H
 replace H : (if t305 = true then ((spec_rdParts.f k a0 a1 a2).bind fun t306=>(some (t306,true))) else (some (([] : List Int),false))) = some (r1,r2):=H
 have A6:=zI A60;clear A60
 by_cases c7 : t305 = true
 rotate_left
 · replace c7:=Bool.eq_false_iff.mpr c7
   subst c7
   have H1 : (some (([] : List Int),false)) = some (r1,r2):=by rw [if_neg (show ¬ (false = true) by decide)] at H;exact H
   clear H;have H:=H1;clear H1
   simp only [Option.some.injEq,Prod.mk.injEq] at H
   obtain ⟨rfl,rfl⟩:=H
   go_enter Try.func20,Try.ntmps20
   go_wp2_with (first|((with_reducible refine gate_callee (f:=36) rfl ?_);refine goesL_ (some 9) rfl rfl Try.func36 (by kernel_rfl) rfl #[.int .i64 a0] rfl (by (try simp only [List.map_toArray,List.map_cons,List.map_nil]);first|done|rfl|(simp only [List.length_drop,List.length_take];rfl)) ?_;(with_reducible refine (spec_bpBook.calls a0 true _ A4.out).mono ?_);rintro e w' ⟨rfl,⟨nd,rfl⟩⟩;refine ⟨_,rfl,?_⟩)|(go_at_call 43;(with_reducible refine (spec_rdPart.calls a1 a2 false _ A6.out).mono ?_);rintro e w' ⟨rfl,⟨nd,rfl⟩⟩))
   go_ret2
   exact ⟨_,by first|rfl|(simp [errW_none,errW_some] <;> rfl)|(simp [*,errW_none,errW_some] <;> rfl),by first|exact Kd.R_nil _ _ _ _ _|exact Kd.N_nil _ _ _ _ _|exact Kd.V_nil _ _ _ _ _|exact Kd.Q_nil _ _ _ _ _|exact Kd.S_nil _ _ _ _ _,by repeat (first|(with_reducible first|exact HB.out|apply zJ|apply zG|apply zH)|exact HB.out)⟩
 subst c7
 have H1 : ((spec_rdParts.f k a0 a1 a2).bind fun t306=>(some (t306,true))) = some (r1,r2):=by rw [if_pos rfl] at H;exact H
 clear H;have H:=H1;clear H1;replace H:=Option.bind_eq_some_iff.mp H
 obtain ⟨t306,A80,H⟩:=H
 replace H : (some (t306,true)) = some (r1,r2):=H
 have A8:=zI A80;clear A80
 simp only [Option.some.injEq,Prod.mk.injEq] at H
 obtain ⟨rfl,rfl⟩:=H
 go_enter Try.func20,Try.ntmps20
 go_wp2_with (first|((with_reducible refine gate_callee (f:=36) rfl ?_);refine goesL_ (some 9) rfl rfl Try.func36 (by kernel_rfl) rfl #[.int .i64 a0] rfl (by (try simp only [List.map_toArray,List.map_cons,List.map_nil]);first|done|rfl|(simp only [List.length_drop,List.length_take];rfl)) ?_;(with_reducible refine (spec_bpBook.calls a0 true _ A4.out).mono ?_);rintro e w' ⟨rfl,⟨nd,rfl⟩⟩;refine ⟨_,rfl,?_⟩)|(go_at_call 43;(with_reducible refine (spec_rdPart.calls a1 a2 true _ A6.out).mono ?_);rintro e w' ⟨rfl,⟨nd,rfl⟩⟩)|((with_reducible refine gate_callee (f:=44) rfl ?_);refine goesL_ (some 20) rfl rfl Try.func44 (by kernel_rfl) rfl #[.int .i64 a0,.int .i64 a1,.int .i64 a2] rfl (by (try simp only [List.map_toArray,List.map_cons,List.map_nil]);first|done|rfl|(simp only [List.length_drop,List.length_take];rfl)) ?_;(with_reducible refine (spec_rdParts.calls k a0 a1 a2 t306 _ A8.out).mono ?_);rintro e w9 ⟨v307,rfl,ho0,hb⟩;refine ⟨_,rfl,?_⟩;have n0_:=zI (Kd.R_lower ho0 (below_size (by repeat (first|(with_reducible first|exact HB.out|apply zJ|apply zG|apply zH)|exact HB.out))));have n1_:=zI (below_step (by repeat (first|(with_reducible first|exact HB.out|apply zJ|apply zG|apply zH)|exact HB.out)) hb);clear HB;have HO308:=n0_;have HB:=n1_;clear n0_ n1_;(try clear hb);(try clear hb2);(try clear hk);(try clear hi);(try clear ho0)))
 go_ret2
 exact ⟨_,by first|rfl|(simp [errW_none,errW_some] <;> rfl)|(simp [*,errW_none,errW_some] <;> rfl),by (with_reducible repeat (first|apply zN|apply zO|apply zP));exact HO308.out,by repeat (first|(with_reducible first|exact HB.out|apply zJ|apply zG|apply zH)|exact HB.out)⟩

/-! ### impl_DaysOfParts: function 21 -/
def impl_DaysOfParts.f (k : Nat) (a0 : Int) (a1 : Int) (a2 : Int) : Option (Int × Bool) := (impl_PartPlan.f k a0 a1 a2).bind fun bt309 => (some ((bt309.1.length : Int), bt309.2))
theorem impl_DaysOfParts.mono : ∀ a0 a1 a2 k, LeO (impl_DaysOfParts.f k a0 a1 a2) (impl_DaysOfParts.f (k + 1) a0 a1 a2) := by
  intro a0 a1 a2 k
  unfold impl_DaysOfParts.f
  repeat' first
      | (with_reducible exact impl_PartPlan.mono _ _ _ _)
      | (with_reducible exact LeO.refl _)
      | (with_reducible exact LeO.none _)
      | (with_reducible refine LeO.ite ?_ ?_)
      | (with_reducible refine LeO.bind ?_ (fun _ => ?_))
      | exact impl_PartPlan.mono _ _ _ _
      | exact LeO.none _
      | refine LeO.ite ?_ ?_
      | refine LeO.bind ?_ (fun _ => ?_)
set_option maxHeartbeats 8000000 in
set_option maxRecDepth 100000 in
theorem impl_DaysOfParts.calls (k : Nat) (a0 : Int) (a1 : Int) (a2 : Int) (r1 : Int) (r2 : Bool) (w : World) (h : impl_DaysOfParts.f k a0 a1 a2 = some (r1, r2)) :
    Calls Try.prog 21 #[.int .i64 a0, .int .i64 a1, .int .i64 a2] w fun e w' => e = .returned (.tuple #[.int .i64 r1, .bool r2]) ∧ Below w.heap.size w w' := by
  have HB := Aside0.mk (Below.refl w.heap.size w)
  have H : ((impl_PartPlan.f k a0 a1 a2).bind fun bt309 => (some ((bt309.1.length : Int), bt309.2))) = some (r1, r2) := h
  clear h
  replace H := Option.bind_eq_some_iff.mp H
  obtain ⟨⟨t309, t310⟩, A40, H⟩ := H
  replace H : (some ((t309.length : Int), t310)) = some (r1, r2) := H
  have A4 := Aside0.mk A40
  clear A40
  simp only [Option.some.injEq, Prod.mk.injEq] at H
  obtain ⟨rfl, rfl⟩ := H
  go_enter Try.func21, Try.ntmps21
  go_wp2_with (first | ((with_reducible refine gate_callee (f := 19) rfl ?_); refine goesL_ (some 14) rfl rfl Try.func19 (by kernel_rfl) rfl #[.int .i64 a0, .int .i64 a1, .int .i64 a2] rfl (by (try simp only [List.map_toArray, List.map_cons, List.map_nil]); first | done | rfl | (simp only [List.length_drop, List.length_take]; rfl)) ?_; (with_reducible refine (impl_PartPlan.calls k a0 a1 a2 t309 t310 _ A4.out).mono ?_); rintro e w5 ⟨v311, rfl, ho0, hb⟩; refine ⟨_, rfl, ?_⟩; have n0_ := Aside0.mk (Kd.R_lower ho0 (below_size (by repeat (first | (with_reducible first | exact HB.out | apply below_alloc | apply pw_below_drewN | apply below_drew1) | exact HB.out)))); have n1_ := Aside0.mk (below_step (by repeat (first | (with_reducible first | exact HB.out | apply below_alloc | apply pw_below_drewN | apply below_drew1) | exact HB.out)) hb); clear HB; have HO312 := n0_; have HB := n1_; clear n0_ n1_; (try clear hb); (try clear hb2); (try clear hk); (try clear hi); (try clear ho0); obtain ⟨Ao6, co6, eo6⟩ := Kd.R_slice HO312.out; subst eo6))
  go_ret2
  exact ⟨by first | rfl | (simp [errW_none, errW_some] <;> rfl) | (simp [*, errW_none, errW_some] <;> rfl), by repeat (first | (with_reducible first | exact HB.out | apply below_alloc | apply pw_below_drewN | apply below_drew1) | exact HB.out)⟩

/-! ### spec_DaysOfParts: function 22 -/
def spec_DaysOfParts.f (k : Nat) (a0 : Int) (a1 : Int) (a2 : Int) : Option (Int × Bool) := (spec_bpBook.f a0).bind fun t313 => (if t313 = true then ((spec_rdPart.f a1 a2).bind fun t314 => (if t314 = true then ((spec_rdParts.f k a0 a1 a2).bind fun t315 => (some ((t315.length : Int), true))) else (some (0, false)))) else (some (0, false)))
theorem spec_DaysOfParts.mono : ∀ a0 a1 a2 k, LeO (spec_DaysOfParts.f k a0 a1 a2) (spec_DaysOfParts.f (k + 1) a0 a1 a2) := by
  intro a0 a1 a2 k
  unfold spec_DaysOfParts.f
  repeat' first
      | (with_reducible exact spec_rdParts.mono _ _ _ _)
      | (with_reducible exact LeO.refl _)
      | (with_reducible exact LeO.none _)
      | (with_reducible refine LeO.ite ?_ ?_)
      | (with_reducible refine LeO.bind ?_ (fun _ => ?_))
      | exact spec_rdParts.mono _ _ _ _
      | exact LeO.none _
      | refine LeO.ite ?_ ?_
      | refine LeO.bind ?_ (fun _ => ?_)
set_option maxHeartbeats 8000000 in
set_option maxRecDepth 100000 in
theorem spec_DaysOfParts.calls (k : Nat) (a0 : Int) (a1 : Int) (a2 : Int) (r1 : Int) (r2 : Bool) (w : World) (h : spec_DaysOfParts.f k a0 a1 a2 = some (r1, r2)) :
    Calls Try.prog 22 #[.int .i64 a0, .int .i64 a1, .int .i64 a2] w fun e w' => e = .returned (.tuple #[.int .i64 r1, .bool r2]) ∧ Below w.heap.size w w' := by
 have HB:=zI (Below.refl w.heap.size w)
 have H : ((spec_bpBook.f a0).bind fun t313=>(if t313 = true then ((spec_rdPart.f a1 a2).bind fun t314=>(if t314 = true then ((spec_rdParts.f k a0 a1 a2).bind fun t315=>(some ((t315.length : Int),true))) else (some (0,false)))) else (some (0,false)))) = some (r1,r2):=h
 clear h;replace H:=Option.bind_eq_some_iff.mp H
 obtain ⟨t313,A40,H⟩:=H
 replace H : (if t313 = true then ((spec_rdPart.f a1 a2).bind fun t314=>(if t314 = true then ((spec_rdParts.f k a0 a1 a2).bind fun t315=>(some ((t315.length : Int),true))) else (some (0,false)))) else (some (0,false))) = some (r1,r2):=H
 have A4:=zI A40;clear A40
 by_cases c5 : t313 = true
 rotate_left
 · replace c5:=Bool.eq_false_iff.mpr c5
   subst c5
   have H1 : (some (0,false)) = some (r1,r2):=by rw [if_neg (show ¬ (false = true) by decide)] at H;exact H
   clear H;have H:=H1;clear H1
   simp only [Option.some.injEq,Prod.mk.injEq] at H
   obtain ⟨rfl,rfl⟩:=H
   go_enter Try.func22,Try.ntmps22
   go_wp2_with (first|((with_reducible refine gate_callee (f:=36) rfl ?_);refine goesL_ (some 9) rfl rfl Try.func36 (by kernel_rfl) rfl #[.int .i64 a0] rfl (by (try simp only [List.map_toArray,List.map_cons,List.map_nil]);first|done|rfl|(simp only [List.length_drop,List.length_take];rfl)) ?_;(with_reducible refine (spec_bpBook.calls a0 false _ A4.out).mono ?_);rintro e w' ⟨rfl,⟨nd,rfl⟩⟩;refine ⟨_,rfl,?_⟩))
   go_ret2
   exact ⟨by first|rfl|(simp [errW_none,errW_some] <;> rfl)|(simp [*,errW_none,errW_some] <;> rfl),by repeat (first|(with_reducible first|exact HB.out|apply zJ|apply zG|apply zH)|exact HB.out)⟩
 subst c5
 have H1 : ((spec_rdPart.f a1 a2).bind fun t314=>(if t314 = true then ((spec_rdParts.f k a0 a1 a2).bind fun t315=>(some ((t315.length : Int),true))) else (some (0,false)))) = some (r1,r2):=by rw [if_pos rfl] at H;exact H
 clear H;have H:=H1;clear H1;replace H:=Option.bind_eq_some_iff.mp H
 obtain ⟨t314,A60,H⟩:=H
 replace H : (if t314 = true then ((spec_rdParts.f k a0 a1 a2).bind fun t315=>(some ((t315.length : Int),true))) else (some (0,false))) = some (r1,r2):=H
 have A6:=zI A60;clear A60
 by_cases c7 : t314 = true
 rotate_left
 · replace c7:=Bool.eq_false_iff.mpr c7
   subst c7
   have H1 : (some (0,false)) = some (r1,r2):=by rw [if_neg (show ¬ (false = true) by decide)] at H;exact H
   clear H;have H:=H1;clear H1
   simp only [Option.some.injEq,Prod.mk.injEq] at H
   obtain ⟨rfl,rfl⟩:=H
   go_enter Try.func22,Try.ntmps22
   go_wp2_with (first|((with_reducible refine gate_callee (f:=36) rfl ?_);refine goesL_ (some 9) rfl rfl Try.func36 (by kernel_rfl) rfl #[.int .i64 a0] rfl (by (try simp only [List.map_toArray,List.map_cons,List.map_nil]);first|done|rfl|(simp only [List.length_drop,List.length_take];rfl)) ?_;(with_reducible refine (spec_bpBook.calls a0 true _ A4.out).mono ?_);rintro e w' ⟨rfl,⟨nd,rfl⟩⟩;refine ⟨_,rfl,?_⟩)|(go_at_call 43;(with_reducible refine (spec_rdPart.calls a1 a2 false _ A6.out).mono ?_);rintro e w' ⟨rfl,⟨nd,rfl⟩⟩))
   go_ret2
   exact ⟨by first|rfl|(simp [errW_none,errW_some] <;> rfl)|(simp [*,errW_none,errW_some] <;> rfl),by repeat (first|(with_reducible first|exact HB.out|apply zJ|apply zG|apply zH)|exact HB.out)⟩
 subst c7
 have H1 : ((spec_rdParts.f k a0 a1 a2).bind fun t315=>(some ((t315.length : Int),true))) = some (r1,r2):=by rw [if_pos rfl] at H;exact H
 clear H;have H:=H1;clear H1;replace H:=Option.bind_eq_some_iff.mp H
 obtain ⟨t315,A80,H⟩:=H
 replace H : (some ((t315.length : Int),true)) = some (r1,r2):=H
 have A8:=zI A80;clear A80
 simp only [Option.some.injEq,Prod.mk.injEq] at H
 obtain ⟨rfl,rfl⟩:=H
 go_enter Try.func22,Try.ntmps22
 go_wp2_with (first|((with_reducible refine gate_callee (f:=36) rfl ?_);refine goesL_ (some 9) rfl rfl Try.func36 (by kernel_rfl) rfl #[.int .i64 a0] rfl (by (try simp only [List.map_toArray,List.map_cons,List.map_nil]);first|done|rfl|(simp only [List.length_drop,List.length_take];rfl)) ?_;(with_reducible refine (spec_bpBook.calls a0 true _ A4.out).mono ?_);rintro e w' ⟨rfl,⟨nd,rfl⟩⟩;refine ⟨_,rfl,?_⟩)|(go_at_call 43;(with_reducible refine (spec_rdPart.calls a1 a2 true _ A6.out).mono ?_);rintro e w' ⟨rfl,⟨nd,rfl⟩⟩)|((with_reducible refine gate_callee (f:=44) rfl ?_);refine goesL_ (some 20) rfl rfl Try.func44 (by kernel_rfl) rfl #[.int .i64 a0,.int .i64 a1,.int .i64 a2] rfl (by (try simp only [List.map_toArray,List.map_cons,List.map_nil]);first|done|rfl|(simp only [List.length_drop,List.length_take];rfl)) ?_;(with_reducible refine (spec_rdParts.calls k a0 a1 a2 t315 _ A8.out).mono ?_);rintro e w9 ⟨v316,rfl,ho0,hb⟩;refine ⟨_,rfl,?_⟩;have n0_:=zI (Kd.R_lower ho0 (below_size (by repeat (first|(with_reducible first|exact HB.out|apply zJ|apply zG|apply zH)|exact HB.out))));have n1_:=zI (below_step (by repeat (first|(with_reducible first|exact HB.out|apply zJ|apply zG|apply zH)|exact HB.out)) hb);clear HB;have HO317:=n0_;have HB:=n1_;clear n0_ n1_;(try clear hb);(try clear hb2);(try clear hk);(try clear hi);(try clear ho0);obtain ⟨Ao10,co10,eo10⟩:=Kd.R_slice HO317.out;subst eo10))
 go_ret2
 exact ⟨by first|rfl|(simp [errW_none,errW_some] <;> rfl)|(simp [*,errW_none,errW_some] <;> rfl),by repeat (first|(with_reducible first|exact HB.out|apply zJ|apply zG|apply zH)|exact HB.out)⟩

end Go.Proofs.Ytllakpmepfeinaa.XFnReadersPlan
