-- Written by a program of this session: the machine side of the law FnReadersPlan, with contracts proved by hand for what the kit's print doesn't take. Lean checks it.
import Derived.Test.YtllakpmepfeinaaXFnReadersPlanx0
import Derived.Test.YtllakpmepfeinaaXFnReadersPlanx1
import Derived.Test.YtllakpmepfeinaaXFnReadersPlanx2
namespace Go.Proofs.Ytllakpmepfeinaa.XFnReadersPlan
open Go.RowKit Go.Proofs.YtllakpmepfeinaaW.PrintWords Go.Proofs.YtllakpmepfeinaaW.PrintLast Go.Proofs.YtllakpmepfeinaaW.PrintMore
attribute [local go_sem] max2_int min2_int max_two min_two max_three min_three max_four min_four   -- for this text's walks alone
set_option linter.unusedVariables false
set_option linter.unusedSimpArgs false

/-! ### spec_rdRising: function 38 -/
def spec_rdRising.l0 : Nat → Int → Int → Int → List Int → Option (List Int)
  | 0, _, _, _, _ => none
  | k + 1, x0, x1, x2, x7 => if x0 > 0 then ((spec_l1Least.f x0 x1).bind fun t225 => (if x7.length < 17592186044416 then (spec_rdRising.l0 k (wrap64 (x0 - t225)) (wrap64 (x1 + x2)) x2 (x7 ++ [t225])) else (none))) else (some x7)
def spec_rdRising.f (k : Nat) (a0 : Int) (a1 : Int) (a2 : Int) : Option (List Int) := spec_rdRising.l0 k a0 a1 a2 ([] : List Int)
theorem spec_rdRising.mono_l : ∀ k, (∀ y0 y1 y2 y3, LeO (spec_rdRising.l0 k y0 y1 y2 y3) (spec_rdRising.l0 (k + 1) y0 y1 y2 y3))
  | 0 => fun _ _ _ _ r h => by simp [spec_rdRising.l0] at h
  | k + 1 => by
    have ih0 := spec_rdRising.mono_l k
    · intro y0 y1 y2 y3
      unfold spec_rdRising.l0
      repeat' first
      | (with_reducible exact ih0 _ _ _ _)
      | (with_reducible exact LeO.refl _)
      | (with_reducible exact LeO.none _)
      | (with_reducible refine LeO.ite ?_ ?_)
      | (with_reducible refine LeO.bind ?_ (fun _ => ?_))
      | exact ih0 _ _ _ _
      | exact LeO.none _
      | refine LeO.ite ?_ ?_
      | refine LeO.bind ?_ (fun _ => ?_)
theorem spec_rdRising.mono : ∀ a0 a1 a2 k, LeO (spec_rdRising.f k a0 a1 a2) (spec_rdRising.f (k + 1) a0 a1 a2) := by
  intro a0 a1 a2 k
  have ih0 := spec_rdRising.mono_l k
  unfold spec_rdRising.f
  repeat' first
      | (with_reducible exact ih0 _ _ _ _)
      | (with_reducible exact LeO.refl _)
      | (with_reducible exact LeO.none _)
      | (with_reducible refine LeO.ite ?_ ?_)
      | (with_reducible refine LeO.bind ?_ (fun _ => ?_))
      | exact ih0 _ _ _ _
      | exact LeO.none _
      | refine LeO.ite ?_ ?_
      | refine LeO.bind ?_ (fun _ => ?_)
set_option maxHeartbeats 8000000 in
set_option maxRecDepth 100000 in
theorem spec_rdRising.calls (k : Nat) (a0 : Int) (a1 : Int) (a2 : Int) (r : List Int) (w : World) (h : spec_rdRising.f k a0 a1 a2 = some r) :
    Calls Try.prog 38 #[.int .i64 a0, .int .i64 a1, .int .i64 a2] w fun e w' => ∃ v0_ : Value, e = .returned (v0_) ∧ Kd.R (Kd.int .i64) 3 w' w.heap.size (fun _ => True) v0_ r ∧ Below w.heap.size w w' := by
 have HB:=zI (Below.refl w.heap.size w)
 have H : (spec_rdRising.l0 k a0 a1 a2 ([] : List Int)) = some r:=h
 clear h;have H':=zI H;clear H
 go_enter Try.func38,Try.ntmps38
 go_wp2
 go_loopg [0,1,7] k (fun kq v0 v1 v7 w'=>∃ (x0_1 : Int) (x1_1 : Int) (x7_1 : List Int),v0 = .int .i64 x0_1 ∧ v1 = .int .i64 x1_1 ∧ Aside0 (spec_rdRising.l0 kq x0_1 x1_1 a2 x7_1 = some r) ∧ Aside0 (kq ≤ k) ∧ Aside0 (Kd.R (Kd.int .i64) 3 w' w.heap.size (fun _=>True) v7 x7_1) ∧ Aside0 (Below w.heap.size w w'))
 case atStart=>exact ⟨(a0),(a1),(([] : List Int)),(by first|rfl|(simp;done)|(simp [*];done)),(by first|rfl|(simp;done)|(simp [*];done)),H',⟨Nat.le_refl _⟩,⟨by first|exact Kd.R_nil _ _ _ _ _|exact Kd.N_nil _ _ _ _ _|exact Kd.V_nil _ _ _ _ _|exact Kd.Q_nil _ _ _ _ _|exact Kd.S_nil _ _ _ _ _⟩,⟨by repeat (first|(with_reducible first|exact HB.out|apply zJ|apply zG|apply zH)|exact HB.out)⟩⟩
 case round =>
  clear H'
  (try clear p2);(try clear c3)
  obtain ⟨x0_1,x1_1,x7_1,rfl,rfl,HA,HK1,HO_7,HB⟩:=hrel
  cases gk with
  | zero=>exact absurd HA.out (by simp [spec_rdRising.l0])
  | succ k1 =>
   have H:=HA.out;clear HA
   simp only [spec_rdRising.l0] at H
   by_cases c4 : x0_1 > 0
   rotate_left
   · rw [if_neg c4] at H
     have c4b0 : decide (0 < x0_1) = false:=decide_eq_false c4
     clear c4
     obtain rfl:=Option.some.inj H
     go_wp2
     go_ret
     exact ⟨_,by first|rfl|(simp [errW_none,errW_some] <;> rfl)|(simp [*,errW_none,errW_some] <;> rfl),by (with_reducible repeat (first|apply zN|apply zO|apply zP));exact HO_7.out,by repeat (first|(with_reducible first|exact HB.out|apply zJ|apply zG|apply zH)|exact HB.out)⟩
   rw [if_pos c4] at H
   have c4b0 : decide (0 < x0_1) = true:=decide_eq_true c4
   clear c4;replace H:=Option.bind_eq_some_iff.mp H
   obtain ⟨t225,A50,H⟩:=H
   replace H : (if x7_1.length < 17592186044416 then (spec_rdRising.l0 k1 (wrap64 (x0_1 - t225)) (wrap64 (x1_1 + a2)) a2 (x7_1 ++ [t225])) else (none)) = some r:=H
   have A5:=zI A50;clear A50
   by_cases c6 : x7_1.length < 17592186044416
   rotate_left
   · rw [if_neg c6] at H
     exact absurd H (by simp)
   rw [if_pos c6] at H
   have LMc6:=zI c6;clear c6
   obtain ⟨y226,hy226⟩ : ∃ y_ : List Int,y_ = (x7_1 ++ [t225]):=⟨_,rfl⟩
   replace H : (spec_rdRising.l0 k1 (wrap64 (x0_1 - t225)) (wrap64 (x1_1 + a2)) a2 y226) = some r:=by first|(rw [hy226];with_reducible exact H)|(have H2_:=(Option.bind_some _ _).symm.trans H;rw [hy226];with_reducible exact H2_)|(have H2_:=(Option.bind_some _ _).symm.trans H;with_reducible exact H2_)|with_reducible exact H|(rw [hy226];exact H)|exact H
   have Ny226:=zI hy226;clear hy226;have H':=zI H;clear H
   go_wp2_with (first|((with_reducible refine gate_callee (f:=50) rfl ?_);refine goesL_ (some 13) rfl rfl Try.func50 (by kernel_rfl) rfl #[.int .i64 x0_1,.int .i64 x1_1] rfl (by (try simp only [List.map_toArray,List.map_cons,List.map_nil]);first|done|rfl|(simp only [List.length_drop,List.length_take];rfl)) ?_;(with_reducible refine (spec_l1Least.calls x0_1 x1_1 t225 _ A5.out).mono ?_);rintro e w' ⟨rfl,⟨nd,rfl⟩⟩;refine ⟨_,rfl,?_⟩)|((with_reducible refine gate_builtin (b:=.append) (xs:=#[.tmp 14,.tmp 16]) rfl ?_);at_builtin;refine Kd.R_append (Kd.int .i64) (w0:=w) w.heap.size rfl (.tmp 14) (.tmp 16) 26 3 (.int .i64 0) 8 rfl Try.underlying26 info3 rfl (by decide) (by omega) u7 x7_1 t225 [.int .i64 t225] (fun _=>True) (fun _=>False) rfl rfl ?aP (fun _ hk=>hk.elim) ?aF ?aO ?aB ?aS ?aL ?_;(case aP=>exact rfl);(case aB=>exact (by repeat (first|(with_reducible first|exact HB.out|apply zJ|apply zG|apply zH)|exact HB.out)));(case aF=>exact (fun _ _=>trivial));(case aO=>exact (by (with_reducible repeat (first|apply zN|apply zO|apply zP));exact HO_7.out));(case aS=>exact (below_size (by repeat (first|(with_reducible first|exact HB.out|apply zJ|apply zG|apply zH)|exact HB.out))));(case aL=>have:=LMc6.out;omega);intro v227 w7 ho hb hg hat;rw [← Ny226.out] at ho;have n0_:=zI (hb);have n1_:=zI (ho);clear HB;clear HO_7;have HB:=n0_;have HO228:=n1_;clear n0_ n1_;clear ho hb hg hat))
   go_roundg k1
   case measure=>have:=HK1.out;omega
   case rel=>exact ⟨(wrap64 (x0_1 - t225)),(wrap64 (x1_1 + a2)),(y226),(by first|rfl|(simp;done)|(simp [*];done)),(by first|rfl|(simp;done)|(simp [*];done)),H',⟨by have:=HK1.out;omega⟩,⟨by (with_reducible repeat (first|apply zN|apply zO|apply zP));exact HO228.out⟩,⟨by repeat (first|(with_reducible first|exact HB.out|apply zJ|apply zG|apply zH)|exact HB.out)⟩⟩

/-! ### spec_RisingPlan: function 14 -/
def spec_RisingPlan.f (k : Nat) (a0 : Int) (a1 : Int) (a2 : Int) : Option (List Int × Bool) := (spec_bpBook.f a0).bind fun t229 => (if t229 = true then ((spec_l1In.f a1 1 200).bind fun t230 => (if t230 = true then ((spec_l1In.f a2 0 200).bind fun t231 => (if t231 = true then ((spec_rdRising.f k a0 a1 a2).bind fun t232 => (some (t232, true))) else (some (([] : List Int), false)))) else (some (([] : List Int), false)))) else (some (([] : List Int), false)))
theorem spec_RisingPlan.mono : ∀ a0 a1 a2 k, LeO (spec_RisingPlan.f k a0 a1 a2) (spec_RisingPlan.f (k + 1) a0 a1 a2) := by
  intro a0 a1 a2 k
  unfold spec_RisingPlan.f
  repeat' first
      | (with_reducible exact spec_rdRising.mono _ _ _ _)
      | (with_reducible exact LeO.refl _)
      | (with_reducible exact LeO.none _)
      | (with_reducible refine LeO.ite ?_ ?_)
      | (with_reducible refine LeO.bind ?_ (fun _ => ?_))
      | exact spec_rdRising.mono _ _ _ _
      | exact LeO.none _
      | refine LeO.ite ?_ ?_
      | refine LeO.bind ?_ (fun _ => ?_)
set_option maxHeartbeats 8000000 in
set_option maxRecDepth 100000 in
theorem spec_RisingPlan.calls (k : Nat) (a0 : Int) (a1 : Int) (a2 : Int) (r1 : List Int) (r2 : Bool) (w : World) (h : spec_RisingPlan.f k a0 a1 a2 = some (r1, r2)) :
    Calls Try.prog 14 #[.int .i64 a0, .int .i64 a1, .int .i64 a2] w fun e w' => ∃ v0_ : Value, e = .returned (.tuple #[v0_, .bool r2]) ∧ Kd.R (Kd.int .i64) 3 w' w.heap.size (fun _ => True) v0_ r1 ∧ Below w.heap.size w w' := by
 have HB:=zI (Below.refl w.heap.size w)
 have H : ((spec_bpBook.f a0).bind fun t229=>(if t229 = true then ((spec_l1In.f a1 1 200).bind fun t230=>(if t230 = true then ((spec_l1In.f a2 0 200).bind fun t231=>(if t231 = true then ((spec_rdRising.f k a0 a1 a2).bind fun t232=>(some (t232,true))) else (some (([] : List Int),false)))) else (some (([] : List Int),false)))) else (some (([] : List Int),false)))) = some (r1,r2):=h
 clear h;replace H:=Option.bind_eq_some_iff.mp H
 obtain ⟨t229,A40,H⟩:=H
 replace H : (if t229 = true then ((spec_l1In.f a1 1 200).bind fun t230=>(if t230 = true then ((spec_l1In.f a2 0 200).bind fun t231=>(if t231 = true then ((spec_rdRising.f k a0 a1 a2).bind fun t232=>(some (t232,true))) else (some (([] : List Int),false)))) else (some (([] : List Int),false)))) else (some (([] : List Int),false))) = some (r1,r2):=H
 have A4:=zI A40;clear A40
 by_cases c5 : t229 = true
 rotate_left
 · replace c5:=Bool.eq_false_iff.mpr c5
   subst c5
   have H1 : (some (([] : List Int),false)) = some (r1,r2):=by rw [if_neg (show ¬ (false = true) by decide)] at H;exact H
   clear H;have H:=H1;clear H1
   simp only [Option.some.injEq,Prod.mk.injEq] at H
   obtain ⟨rfl,rfl⟩:=H
   go_enter Try.func14,Try.ntmps14
   go_wp2_with (first|((with_reducible refine gate_callee (f:=36) rfl ?_);refine goesL_ (some 9) rfl rfl Try.func36 (by kernel_rfl) rfl #[.int .i64 a0] rfl (by (try simp only [List.map_toArray,List.map_cons,List.map_nil]);first|done|rfl|(simp only [List.length_drop,List.length_take];rfl)) ?_;(with_reducible refine (spec_bpBook.calls a0 false _ A4.out).mono ?_);rintro e w' ⟨rfl,⟨nd,rfl⟩⟩;refine ⟨_,rfl,?_⟩))
   go_ret2
   exact ⟨_,by first|rfl|(simp [errW_none,errW_some] <;> rfl)|(simp [*,errW_none,errW_some] <;> rfl),by first|exact Kd.R_nil _ _ _ _ _|exact Kd.N_nil _ _ _ _ _|exact Kd.V_nil _ _ _ _ _|exact Kd.Q_nil _ _ _ _ _|exact Kd.S_nil _ _ _ _ _,by repeat (first|(with_reducible first|exact HB.out|apply zJ|apply zG|apply zH)|exact HB.out)⟩
 subst c5
 have H1 : ((spec_l1In.f a1 1 200).bind fun t230=>(if t230 = true then ((spec_l1In.f a2 0 200).bind fun t231=>(if t231 = true then ((spec_rdRising.f k a0 a1 a2).bind fun t232=>(some (t232,true))) else (some (([] : List Int),false)))) else (some (([] : List Int),false)))) = some (r1,r2):=by rw [if_pos rfl] at H;exact H
 clear H;have H:=H1;clear H1;replace H:=Option.bind_eq_some_iff.mp H
 obtain ⟨t230,A60,H⟩:=H
 replace H : (if t230 = true then ((spec_l1In.f a2 0 200).bind fun t231=>(if t231 = true then ((spec_rdRising.f k a0 a1 a2).bind fun t232=>(some (t232,true))) else (some (([] : List Int),false)))) else (some (([] : List Int),false))) = some (r1,r2):=H
 have A6:=zI A60;clear A60
 by_cases c7 : t230 = true
 rotate_left
 · replace c7:=Bool.eq_false_iff.mpr c7
   subst c7
   have H1 : (some (([] : List Int),false)) = some (r1,r2):=by rw [if_neg (show ¬ (false = true) by decide)] at H;exact H
   clear H;have H:=H1;clear H1
   simp only [Option.some.injEq,Prod.mk.injEq] at H
   obtain ⟨rfl,rfl⟩:=H
   go_enter Try.func14,Try.ntmps14
   go_wp2_with (first|((with_reducible refine gate_callee (f:=36) rfl ?_);refine goesL_ (some 9) rfl rfl Try.func36 (by kernel_rfl) rfl #[.int .i64 a0] rfl (by (try simp only [List.map_toArray,List.map_cons,List.map_nil]);first|done|rfl|(simp only [List.length_drop,List.length_take];rfl)) ?_;(with_reducible refine (spec_bpBook.calls a0 true _ A4.out).mono ?_);rintro e w' ⟨rfl,⟨nd,rfl⟩⟩;refine ⟨_,rfl,?_⟩)|(go_at_call 37;(with_reducible refine (spec_l1In.calls a1 1 200 false _ A6.out).mono ?_);rintro e w' ⟨rfl,⟨nd,rfl⟩⟩))
   go_ret2
   exact ⟨_,by first|rfl|(simp [errW_none,errW_some] <;> rfl)|(simp [*,errW_none,errW_some] <;> rfl),by first|exact Kd.R_nil _ _ _ _ _|exact Kd.N_nil _ _ _ _ _|exact Kd.V_nil _ _ _ _ _|exact Kd.Q_nil _ _ _ _ _|exact Kd.S_nil _ _ _ _ _,by repeat (first|(with_reducible first|exact HB.out|apply zJ|apply zG|apply zH)|exact HB.out)⟩
 subst c7
 have H1 : ((spec_l1In.f a2 0 200).bind fun t231=>(if t231 = true then ((spec_rdRising.f k a0 a1 a2).bind fun t232=>(some (t232,true))) else (some (([] : List Int),false)))) = some (r1,r2):=by rw [if_pos rfl] at H;exact H
 clear H;have H:=H1;clear H1;replace H:=Option.bind_eq_some_iff.mp H
 obtain ⟨t231,A80,H⟩:=H
 replace H : (if t231 = true then ((spec_rdRising.f k a0 a1 a2).bind fun t232=>(some (t232,true))) else (some (([] : List Int),false))) = some (r1,r2):=H
 have A8:=zI A80;clear A80
 by_cases c9 : t231 = true
 rotate_left
 · replace c9:=Bool.eq_false_iff.mpr c9
   subst c9
   have H1 : (some (([] : List Int),false)) = some (r1,r2):=by rw [if_neg (show ¬ (false = true) by decide)] at H;exact H
   clear H;have H:=H1;clear H1
   simp only [Option.some.injEq,Prod.mk.injEq] at H
   obtain ⟨rfl,rfl⟩:=H
   go_enter Try.func14,Try.ntmps14
   go_wp2_with (first|((with_reducible refine gate_callee (f:=36) rfl ?_);refine goesL_ (some 9) rfl rfl Try.func36 (by kernel_rfl) rfl #[.int .i64 a0] rfl (by (try simp only [List.map_toArray,List.map_cons,List.map_nil]);first|done|rfl|(simp only [List.length_drop,List.length_take];rfl)) ?_;(with_reducible refine (spec_bpBook.calls a0 true _ A4.out).mono ?_);rintro e w' ⟨rfl,⟨nd,rfl⟩⟩;refine ⟨_,rfl,?_⟩)|(go_at_call 37;(with_reducible refine (spec_l1In.calls a1 1 200 true _ A6.out).mono ?_);rintro e w' ⟨rfl,⟨nd,rfl⟩⟩)|(go_at_call 37;(with_reducible refine (spec_l1In.calls a2 0 200 false _ A8.out).mono ?_);rintro e w' ⟨rfl,⟨nd,rfl⟩⟩))
   go_ret2
   exact ⟨_,by first|rfl|(simp [errW_none,errW_some] <;> rfl)|(simp [*,errW_none,errW_some] <;> rfl),by first|exact Kd.R_nil _ _ _ _ _|exact Kd.N_nil _ _ _ _ _|exact Kd.V_nil _ _ _ _ _|exact Kd.Q_nil _ _ _ _ _|exact Kd.S_nil _ _ _ _ _,by repeat (first|(with_reducible first|exact HB.out|apply zJ|apply zG|apply zH)|exact HB.out)⟩
 subst c9
 have H1 : ((spec_rdRising.f k a0 a1 a2).bind fun t232=>(some (t232,true))) = some (r1,r2):=by rw [if_pos rfl] at H;exact H
 clear H;have H:=H1;clear H1;replace H:=Option.bind_eq_some_iff.mp H
 obtain ⟨t232,A100,H⟩:=H
 replace H : (some (t232,true)) = some (r1,r2):=H
 have A10:=zI A100;clear A100
 simp only [Option.some.injEq,Prod.mk.injEq] at H
 obtain ⟨rfl,rfl⟩:=H
 go_enter Try.func14,Try.ntmps14
 go_wp2_with (first|((with_reducible refine gate_callee (f:=36) rfl ?_);refine goesL_ (some 9) rfl rfl Try.func36 (by kernel_rfl) rfl #[.int .i64 a0] rfl (by (try simp only [List.map_toArray,List.map_cons,List.map_nil]);first|done|rfl|(simp only [List.length_drop,List.length_take];rfl)) ?_;(with_reducible refine (spec_bpBook.calls a0 true _ A4.out).mono ?_);rintro e w' ⟨rfl,⟨nd,rfl⟩⟩;refine ⟨_,rfl,?_⟩)|(go_at_call 37;(with_reducible refine (spec_l1In.calls a1 1 200 true _ A6.out).mono ?_);rintro e w' ⟨rfl,⟨nd,rfl⟩⟩)|(go_at_call 37;(with_reducible refine (spec_l1In.calls a2 0 200 true _ A8.out).mono ?_);rintro e w' ⟨rfl,⟨nd,rfl⟩⟩)|((with_reducible refine gate_callee (f:=38) rfl ?_);refine goesL_ (some 24) rfl rfl Try.func38 (by kernel_rfl) rfl #[.int .i64 a0,.int .i64 a1,.int .i64 a2] rfl (by (try simp only [List.map_toArray,List.map_cons,List.map_nil]);first|done|rfl|(simp only [List.length_drop,List.length_take];rfl)) ?_;(with_reducible refine (spec_rdRising.calls k a0 a1 a2 t232 _ A10.out).mono ?_);rintro e w11 ⟨v233,rfl,ho0,hb⟩;refine ⟨_,rfl,?_⟩;have n0_:=zI (Kd.R_lower ho0 (below_size (by repeat (first|(with_reducible first|exact HB.out|apply zJ|apply zG|apply zH)|exact HB.out))));have n1_:=zI (below_step (by repeat (first|(with_reducible first|exact HB.out|apply zJ|apply zG|apply zH)|exact HB.out)) hb);clear HB;have HO234:=n0_;have HB:=n1_;clear n0_ n1_;(try clear hb);(try clear hb2);(try clear hk);(try clear hi);(try clear ho0)))
 go_ret2
 exact ⟨_,by first|rfl|(simp [errW_none,errW_some] <;> rfl)|(simp [*,errW_none,errW_some] <;> rfl),by (with_reducible repeat (first|apply zN|apply zO|apply zP));exact HO234.out,by repeat (first|(with_reducible first|exact HB.out|apply zJ|apply zG|apply zH)|exact HB.out)⟩

/-! ### spec_DrawFirstForRising: function 15 -/
def spec_DrawFirstForRising.f (l0 : List Int) : Option (Int × Int × Int) := (spec_l1Cur_bookOf.f l0 0 0).bind fun bt236 => ((spec_l1Cur_day.f l0 bt236.2.1 bt236.2.2).bind fun bt239 => ((spec_l1Cur_among.f l0 bt239.2.1 bt239.2.2 (([0, 1, 2, 5, 200, 201, (-1)] : List Int))).bind fun bt245 => (some (bt236.1, bt239.1, bt245.1))))
set_option maxHeartbeats 8000000 in
set_option maxRecDepth 100000 in
theorem spec_DrawFirstForRising.calls (A0 : Option Addr) (c0 : Nat) (l0 : List Int) (r1 : Int) (r2 : Int) (r3 : Int) (w : World) (hr0 : Kd.C (Kd.int .u8) w A0 l0.length l0) (hc0 : l0.length ≤ c0) (h : spec_DrawFirstForRising.f l0 = some (r1, r2, r3)) :
    Calls Try.prog 15 #[.slice A0 l0.length c0] w fun e w' => e = .returned (.tuple #[.int .i64 r1, .int .i64 r2, .int .i64 r3]) ∧ Below w.heap.size w w' := by
 have hu42:=Try.underlying42;have HR0:=zI hr0;have HC0:=zI hc0;clear hr0 hc0
 have HB:=zI (Below.refl w.heap.size w)
 have H : ((spec_l1Cur_bookOf.f l0 0 0).bind fun bt236=>((spec_l1Cur_day.f l0 bt236.2.1 bt236.2.2).bind fun bt239=>((spec_l1Cur_among.f l0 bt239.2.1 bt239.2.2 (([0,1,2,5,200,201,(-1)] : List Int))).bind fun bt245=>(some (bt236.1,bt239.1,bt245.1))))) = some (r1,r2,r3):=h
 clear h;replace H:=Option.bind_eq_some_iff.mp H
 obtain ⟨⟨t236,t237,t238⟩,A20,H⟩:=H
 replace H : ((spec_l1Cur_day.f l0 t237 t238).bind fun bt239=>((spec_l1Cur_among.f l0 bt239.2.1 bt239.2.2 (([0,1,2,5,200,201,(-1)] : List Int))).bind fun bt245=>(some (t236,bt239.1,bt245.1)))) = some (r1,r2,r3):=H
 have A2:=zI A20;clear A20;replace H:=Option.bind_eq_some_iff.mp H
 obtain ⟨⟨t239,t240,t241⟩,A30,H⟩:=H
 replace H : ((spec_l1Cur_among.f l0 t240 t241 (([0,1,2,5,200,201,(-1)] : List Int))).bind fun bt245=>(some (t236,t239,bt245.1))) = some (r1,r2,r3):=H
 have A3:=zI A30;clear A30
 obtain ⟨y242,hy242⟩ : ∃ y_ : List Int,y_ = (([0,1,2,5,200,201,(-1)] : List Int)):=⟨_,rfl⟩
 replace H : ((spec_l1Cur_among.f l0 t240 t241 y242).bind fun bt245=>(some (t236,t239,bt245.1))) = some (r1,r2,r3):=by first|(rw [hy242];with_reducible exact H)|(have H2_:=(Option.bind_some _ _).symm.trans H;rw [hy242];with_reducible exact H2_)|(have H2_:=(Option.bind_some _ _).symm.trans H;with_reducible exact H2_)|with_reducible exact H|(rw [hy242];exact H)|exact H
 have Ny242:=zI hy242;clear hy242;replace H:=Option.bind_eq_some_iff.mp H
 obtain ⟨⟨t245,t246,t247⟩,A40,H⟩:=H
 replace H : (some (t236,t239,t245)) = some (r1,r2,r3):=H
 have A4:=zI A40;clear A40
 simp only [Option.some.injEq,Prod.mk.injEq] at H
 obtain ⟨rfl,rfl,rfl⟩:=H
 go_enter Try.func15,Try.ntmps15
 go_wp2_with (first|((with_reducible refine gate_dst (N:=8) rfl ?_);refine box_event ?hg (N:=8) ?hd (cs:=#[.slice A0 l0.length c0,.int .i64 0,.int .u64 0]) (t:=42) ?hr ?_;(case hd=>rfl);(case hg=>rfl);(case hr=>first|(go_simp;done)|(go_simp;rfl));intro gb235 hg w5 hbox hb;have n0_:=zI (below_step (by repeat (first|(with_reducible first|exact HB.out|apply zJ|apply zG|apply zH)|exact HB.out)) hb);have n1_:=zI ((⟨_,_,hbox,(by rw [hg];exact (below_size (by repeat (first|(with_reducible first|exact HB.out|apply zJ|apply zG|apply zH)|exact HB.out))) : w.heap.size ≤ gb235),HR0.out⟩ : IsS42 w w5 gb235 l0 0 0));clear HB;have HB:=n0_;have HI235:=n1_;clear n0_ n1_;clear hb hbox hg)|((with_reducible refine gate_callee (f:=30) rfl ?_);refine goesL_ (some 10) rfl rfl Try.func30 (by kernel_rfl) rfl #[.pointer (some ⟨gb235,0,none⟩)] rfl (by (try simp only [List.map_toArray,List.map_cons,List.map_nil]);first|done|rfl|(simp only [List.length_drop,List.length_take];rfl)) ?_;(with_reducible refine (spec_l1Cur_bookOf.calls gb235 l0 0 0 t236 t237 t238 w _ ?side1 ?side2 A2.out).mono ?_);(case side1=>repeat (first|(with_reducible first|exact HI235.out|apply IsS42.alloc|apply IsS42.drewN|apply IsS42.drew|apply IsS42.set_1|apply IsS42.set_2)|exact HI235.out));(case side2=>repeat (first|(with_reducible first|exact HB.out|apply zJ|apply zG|apply zH|refine zK ?_ (IsS42.ge HI235.out))|exact HB.out));rintro e w6 ⟨rfl,hi,hb,hk⟩;refine ⟨_,rfl,?_⟩;have n0_:=zI (hb);have n1_:=zI (hi);clear HB;clear HI235;have HB:=n0_;have HI235:=n1_;clear n0_ n1_;(try clear hb);(try clear hb2);(try clear hk);(try clear hi))|((with_reducible refine gate_callee (f:=39) rfl ?_);refine goesL_ (some 12) rfl rfl Try.func39 (by kernel_rfl) rfl #[.pointer (some ⟨gb235,0,none⟩)] rfl (by (try simp only [List.map_toArray,List.map_cons,List.map_nil]);first|done|rfl|(simp only [List.length_drop,List.length_take];rfl)) ?_;(with_reducible refine (spec_l1Cur_day.calls gb235 l0 t237 t238 t239 t240 t241 w _ ?side1 ?side2 A3.out).mono ?_);(case side1=>repeat (first|(with_reducible first|exact HI235.out|apply IsS42.alloc|apply IsS42.drewN|apply IsS42.drew|apply IsS42.set_1|apply IsS42.set_2)|exact HI235.out));(case side2=>repeat (first|(with_reducible first|exact HB.out|apply zJ|apply zG|apply zH|refine zK ?_ (IsS42.ge HI235.out))|exact HB.out));rintro e w7 ⟨rfl,hi,hb,hk⟩;refine ⟨_,rfl,?_⟩;have n0_:=zI (hb);have n1_:=zI (hi);clear HB;clear HI235;have HB:=n0_;have HI235:=n1_;clear n0_ n1_;(try clear hb);(try clear hb2);(try clear hk);(try clear hi))|((with_reducible refine gate_dst (N:=14) rfl ?_);refine Kd.R_lit (Kd.int .i64) _ 3 ?hg (N:=14) ?hd (xs:=([0,1,2,5,200,201,(-1)] : List Int)) (inner:=[.int .i64 0,.int .i64 1,.int .i64 2,.int .i64 5,.int .i64 200,.int .i64 201,.int .i64 (-1)]) (ok:=fun _=>True) (okp:=fun _=>True) ?hr ?hp (fun _ hk=>hk) trivial (Below.refl _ _) (Nat.le_refl _) (by simp) ?_;(case hd=>rfl);(case hg=>rfl);(case hr=>first|(go_simp;done)|(go_simp;rfl));(case hp=>exact (Reps.one (show Kd.M (Kd.int .i64) _ _ _ 0 [.int .i64 0] from rfl) (Reps.one (show Kd.M (Kd.int .i64) _ _ _ 1 [.int .i64 1] from rfl) (Reps.one (show Kd.M (Kd.int .i64) _ _ _ 2 [.int .i64 2] from rfl) (Reps.one (show Kd.M (Kd.int .i64) _ _ _ 5 [.int .i64 5] from rfl) (Reps.one (show Kd.M (Kd.int .i64) _ _ _ 200 [.int .i64 200] from rfl) (Reps.one (show Kd.M (Kd.int .i64) _ _ _ 201 [.int .i64 201] from rfl) (Reps.one (show Kd.M (Kd.int .i64) _ _ _ (-1) [.int .i64 (-1)] from rfl) (Reps.none _ _)))))))));intro v243 w8 ho9 hb hg_ hnew_;clear hg_ hnew_;(first|rw [← Ny242.out] at ho9|(simp only [Int.reduceToNat] at ho9;rw [← Ny242.out] at ho9));have n0_:=zI (Kd.R_lower ho9 (below_size (by repeat (first|(with_reducible first|exact HB.out|apply zJ|apply zG|apply zH|refine zK ?_ (IsS42.ge HI235.out))|exact HB.out))));have n1_:=zI (IsS42.below (by repeat (first|(with_reducible first|exact HI235.out|apply IsS42.alloc|apply IsS42.drewN|apply IsS42.drew|apply IsS42.set_1|apply IsS42.set_2)|exact HI235.out)) hb);have n2_:=zI (below_step (by repeat (first|(with_reducible first|exact HB.out|apply zJ|apply zG|apply zH|refine zK ?_ (IsS42.ge HI235.out))|exact HB.out)) hb);clear HI235;clear HB;have HO244:=n0_;have HI235:=n1_;have HB:=n2_;clear n0_ n1_ n2_;clear hb ho9;obtain ⟨Ao10,co10,eo10⟩:=Kd.R_slice HO244.out;subst eo10)|((with_reducible refine gate_callee (f:=31) rfl ?_);refine goesL_ (some 15) rfl rfl Try.func31 (by kernel_rfl) rfl #[.pointer (some ⟨gb235,0,none⟩),.slice Ao10 y242.length co10] rfl (by (try simp only [List.map_toArray,List.map_cons,List.map_nil]);first|done|rfl|(simp only [List.length_drop,List.length_take];rfl)) ?_;(with_reducible refine (spec_l1Cur_among.calls gb235 l0 t240 t241 _ _ y242 t245 t246 t247 w _ ?side1 ?side2 ?side3 ?side4 ?side5 A4.out).mono ?_);(case side1=>repeat (first|(with_reducible first|exact HI235.out|apply IsS42.alloc|apply IsS42.drewN|apply IsS42.drew|apply IsS42.set_1|apply IsS42.set_2)|exact HI235.out));(case side2=>repeat (first|(with_reducible first|exact HB.out|apply zJ|apply zG|apply zH|refine zK ?_ (IsS42.ge HI235.out))|exact HB.out));(case side3=>repeat (first|exact (zM HO244.out).2.2|(with_reducible refine zQ ?_ _)|(with_reducible refine zR ?_ _)|(with_reducible refine zS ?_)));(case side4=>exact (zM HO244.out).2.1);(case side5=>exact far_slice (IsS42.own_ne HI235.out HO244.out (by decide)));rintro e w11 ⟨rfl,hi,hb,hk⟩;refine ⟨_,rfl,?_⟩;have n0_:=zI (Kd.R_mono (Kd.R_keep (IsS42.apart (show IsS42 w _ gb235 l0 t240 t241 from by repeat (first|(with_reducible first|exact HI235.out|apply IsS42.alloc|apply IsS42.drewN|apply IsS42.drew|apply IsS42.set_1|apply IsS42.set_2)|exact HI235.out)) (by (with_reducible repeat (first|apply zN|apply zO|apply zP));exact HO244.out) (by decide)) hk (fun _ h=>h.2)) (fun _ h=>h.1));have n1_:=zI (hb);have n2_:=zI (hi);clear HO244;clear HB;clear HI235;have HO244:=n0_;have HB:=n1_;have HI235:=n2_;clear n0_ n1_ n2_;(try clear hb);(try clear hb2);(try clear hk);(try clear hi)))
 go_ret3
 exact ⟨by first|rfl|(simp [errW_none,errW_some] <;> rfl)|(simp [*,errW_none,errW_some] <;> rfl),by repeat (first|(with_reducible first|exact HB.out|apply zJ|apply zG|apply zH|refine zK ?_ (IsS42.ge HI235.out))|exact HB.out)⟩

/-! ### impl_FirstForRising: function 16 -/
mutual
def impl_FirstForRising.j0 : Nat → Int → Int → Int → Bool → Option (Int × Bool)
  | 0, _, _, _, _ => none
  | k + 1, x0, x1, x2, x21 => if x21 = true then (some (0, false)) else (impl_FirstForRising.l0 k x0 x1 x2 1)
def impl_FirstForRising.l0 : Nat → Int → Int → Int → Int → Option (Int × Bool)
  | 0, _, _, _, _ => none
  | k + 1, x0, x1, x2, x8 => if x8 ≤ 200 then ((impl_rising.f k x0 x8 x2).bind fun t251 => (if (t251.length : Int) ≤ x1 then (some (x8, true)) else (impl_FirstForRising.l0 k x0 x1 x2 (wrap64 (x8 + 1))))) else (some (0, false))
end
def impl_FirstForRising.f (k : Nat) (a0 : Int) (a1 : Int) (a2 : Int) : Option (Int × Bool) := (impl_isBook.f a0).bind fun t248 => (if t248 = true then ((impl_isDay.f a1).bind fun t249 => (if t249 = true then ((impl_isMore.f a2).bind fun t250 => (impl_FirstForRising.j0 k a0 a1 a2 (!t250))) else (impl_FirstForRising.j0 k a0 a1 a2 true))) else (impl_FirstForRising.j0 k a0 a1 a2 true))
theorem impl_FirstForRising.mono_l : ∀ k, (∀ y0 y1 y2 y3, LeO (impl_FirstForRising.j0 k y0 y1 y2 y3) (impl_FirstForRising.j0 (k + 1) y0 y1 y2 y3)) ∧ (∀ y0 y1 y2 y3, LeO (impl_FirstForRising.l0 k y0 y1 y2 y3) (impl_FirstForRising.l0 (k + 1) y0 y1 y2 y3))
  | 0 => ⟨fun _ _ _ _ r h => by simp [impl_FirstForRising.j0] at h, fun _ _ _ _ r h => by simp [impl_FirstForRising.l0] at h⟩
  | k + 1 => by
    obtain ⟨ih0, ih1⟩ := impl_FirstForRising.mono_l k
    refine ⟨?_, ?_⟩
    · intro y0 y1 y2 y3
      unfold impl_FirstForRising.j0
      repeat' first
      | (with_reducible exact ih0 _ _ _ _)
      | (with_reducible exact ih1 _ _ _ _)
      | (with_reducible exact impl_rising.mono _ _ _ _)
      | (with_reducible exact LeO.refl _)
      | (with_reducible exact LeO.none _)
      | (with_reducible refine LeO.ite ?_ ?_)
      | (with_reducible refine LeO.bind ?_ (fun _ => ?_))
      | exact ih0 _ _ _ _
      | exact ih1 _ _ _ _
      | exact impl_rising.mono _ _ _ _
      | exact LeO.none _
      | refine LeO.ite ?_ ?_
      | refine LeO.bind ?_ (fun _ => ?_)
    · intro y0 y1 y2 y3
      unfold impl_FirstForRising.l0
      repeat' first
      | (with_reducible exact ih0 _ _ _ _)
      | (with_reducible exact ih1 _ _ _ _)
      | (with_reducible exact impl_rising.mono _ _ _ _)
      | (with_reducible exact LeO.refl _)
      | (with_reducible exact LeO.none _)
      | (with_reducible refine LeO.ite ?_ ?_)
      | (with_reducible refine LeO.bind ?_ (fun _ => ?_))
      | exact ih0 _ _ _ _
      | exact ih1 _ _ _ _
      | exact impl_rising.mono _ _ _ _
      | exact LeO.none _
      | refine LeO.ite ?_ ?_
      | refine LeO.bind ?_ (fun _ => ?_)
theorem impl_FirstForRising.mono : ∀ a0 a1 a2 k, LeO (impl_FirstForRising.f k a0 a1 a2) (impl_FirstForRising.f (k + 1) a0 a1 a2) := by
  intro a0 a1 a2 k
  obtain ⟨ih0, ih1⟩ := impl_FirstForRising.mono_l k
  unfold impl_FirstForRising.f
  repeat' first
      | (with_reducible exact ih0 _ _ _ _)
      | (with_reducible exact ih1 _ _ _ _)
      | (with_reducible exact impl_rising.mono _ _ _ _)
      | (with_reducible exact LeO.refl _)
      | (with_reducible exact LeO.none _)
      | (with_reducible refine LeO.ite ?_ ?_)
      | (with_reducible refine LeO.bind ?_ (fun _ => ?_))
      | exact ih0 _ _ _ _
      | exact ih1 _ _ _ _
      | exact impl_rising.mono _ _ _ _
      | exact LeO.none _
      | refine LeO.ite ?_ ?_
      | refine LeO.bind ?_ (fun _ => ?_)
set_option maxHeartbeats 8000000 in
set_option maxRecDepth 100000 in
theorem impl_FirstForRising.calls (k : Nat) (a0 : Int) (a1 : Int) (a2 : Int) (r1 : Int) (r2 : Bool) (w : World) (h : impl_FirstForRising.f k a0 a1 a2 = some (r1, r2)) :
    Calls Try.prog 16 #[.int .i64 a0, .int .i64 a1, .int .i64 a2] w fun e w' => e = .returned (.tuple #[.int .i64 r1, .bool r2]) ∧ Below w.heap.size w w' := by
 have HB:=zI (Below.refl w.heap.size w)
 have H : ((impl_isBook.f a0).bind fun t248=>(if t248 = true then ((impl_isDay.f a1).bind fun t249=>(if t249 = true then ((impl_isMore.f a2).bind fun t250=>(impl_FirstForRising.j0 k a0 a1 a2 (!t250))) else (impl_FirstForRising.j0 k a0 a1 a2 true))) else (impl_FirstForRising.j0 k a0 a1 a2 true))) = some (r1,r2):=h
 clear h;have HC4:=zI H;clear H
 go_enter Try.func16,Try.ntmps16
 go_upto_region 1 with (fail)
 go_cut [21] (fun v21 wc=>∃ (kq : Nat) (x21_3 : Bool),v21 = .bool x21_3 ∧ Aside0 (impl_FirstForRising.j0 kq a0 a1 a2 x21_3 = some (r1,r2)) ∧ Aside0 (kq ≤ k) ∧ Aside0 (Below w.heap.size w wc))
 case first =>
  have H:=HC4.out;clear HC4;replace H:=Option.bind_eq_some_iff.mp H
  obtain ⟨t248,A50,H⟩:=H
  replace H : (if t248 = true then ((impl_isDay.f a1).bind fun t249=>(if t249 = true then ((impl_isMore.f a2).bind fun t250=>(impl_FirstForRising.j0 k a0 a1 a2 (!t250))) else (impl_FirstForRising.j0 k a0 a1 a2 true))) else (impl_FirstForRising.j0 k a0 a1 a2 true)) = some (r1,r2):=H
  have A5:=zI A50;clear A50
  by_cases c6 : t248 = true
  rotate_left
  · replace c6:=Bool.eq_false_iff.mpr c6
    subst c6
    have H1 : (impl_FirstForRising.j0 k a0 a1 a2 true) = some (r1,r2):=by rw [if_neg (show ¬ (false = true) by decide)] at H;exact H
    clear H;have H:=H1;clear H1;have H':=zI H;clear H
    go_wp2_with (first|((with_reducible refine gate_callee (f:=32) rfl ?_);refine goesL_ (some 10) rfl rfl Try.func32 (by kernel_rfl) rfl #[.int .i64 a0] rfl (by (try simp only [List.map_toArray,List.map_cons,List.map_nil]);first|done|rfl|(simp only [List.length_drop,List.length_take];rfl)) ?_;(with_reducible refine (impl_isBook.calls a0 false _ A5.out).mono ?_);rintro e w' ⟨rfl,⟨nd,rfl⟩⟩;refine ⟨_,rfl,?_⟩))
    go_meet
    case rel=>exact ⟨_,(true),(by first|rfl|(simp;done)|(simp [*];done)),H',⟨by first|omega|exact Nat.le_refl _⟩,⟨by repeat (first|(with_reducible first|exact HB.out|apply zJ|apply zG|apply zH)|exact HB.out)⟩⟩
  subst c6
  have H1 : ((impl_isDay.f a1).bind fun t249=>(if t249 = true then ((impl_isMore.f a2).bind fun t250=>(impl_FirstForRising.j0 k a0 a1 a2 (!t250))) else (impl_FirstForRising.j0 k a0 a1 a2 true))) = some (r1,r2):=by rw [if_pos rfl] at H;exact H
  clear H;have H:=H1;clear H1;replace H:=Option.bind_eq_some_iff.mp H
  obtain ⟨t249,A70,H⟩:=H
  replace H : (if t249 = true then ((impl_isMore.f a2).bind fun t250=>(impl_FirstForRising.j0 k a0 a1 a2 (!t250))) else (impl_FirstForRising.j0 k a0 a1 a2 true)) = some (r1,r2):=H
  have A7:=zI A70;clear A70
  by_cases c8 : t249 = true
  rotate_left
  · replace c8:=Bool.eq_false_iff.mpr c8
    subst c8
    have H1 : (impl_FirstForRising.j0 k a0 a1 a2 true) = some (r1,r2):=by rw [if_neg (show ¬ (false = true) by decide)] at H;exact H
    clear H;have H:=H1;clear H1;have H':=zI H;clear H
    go_wp2_with (first|((with_reducible refine gate_callee (f:=32) rfl ?_);refine goesL_ (some 10) rfl rfl Try.func32 (by kernel_rfl) rfl #[.int .i64 a0] rfl (by (try simp only [List.map_toArray,List.map_cons,List.map_nil]);first|done|rfl|(simp only [List.length_drop,List.length_take];rfl)) ?_;(with_reducible refine (impl_isBook.calls a0 true _ A5.out).mono ?_);rintro e w' ⟨rfl,⟨nd,rfl⟩⟩;refine ⟨_,rfl,?_⟩)|(go_at_call 40;(with_reducible refine (impl_isDay.calls a1 false _ A7.out).mono ?_);rintro e w' ⟨rfl,⟨nd,rfl⟩⟩))
    go_meet
    case rel=>exact ⟨_,(true),(by first|rfl|(simp;done)|(simp [*];done)),H',⟨by first|omega|exact Nat.le_refl _⟩,⟨by repeat (first|(with_reducible first|exact HB.out|apply zJ|apply zG|apply zH)|exact HB.out)⟩⟩
  subst c8
  have H1 : ((impl_isMore.f a2).bind fun t250=>(impl_FirstForRising.j0 k a0 a1 a2 (!t250))) = some (r1,r2):=by rw [if_pos rfl] at H;exact H
  clear H;have H:=H1;clear H1;replace H:=Option.bind_eq_some_iff.mp H
  obtain ⟨t250,A90,H⟩:=H
  replace H : (impl_FirstForRising.j0 k a0 a1 a2 (!t250)) = some (r1,r2):=H
  have A9:=zI A90;clear A90;have H':=zI H;clear H
  go_wp2_with (first|((with_reducible refine gate_callee (f:=32) rfl ?_);refine goesL_ (some 10) rfl rfl Try.func32 (by kernel_rfl) rfl #[.int .i64 a0] rfl (by (try simp only [List.map_toArray,List.map_cons,List.map_nil]);first|done|rfl|(simp only [List.length_drop,List.length_take];rfl)) ?_;(with_reducible refine (impl_isBook.calls a0 true _ A5.out).mono ?_);rintro e w' ⟨rfl,⟨nd,rfl⟩⟩;refine ⟨_,rfl,?_⟩)|(go_at_call 40;(with_reducible refine (impl_isDay.calls a1 true _ A7.out).mono ?_);rintro e w' ⟨rfl,⟨nd,rfl⟩⟩)|(go_at_call 34;(with_reducible refine (impl_isMore.calls a2 t250 _ A9.out).mono ?_);rintro e w' ⟨rfl,⟨nd,rfl⟩⟩))
  go_meet
  case rel=>exact ⟨_,(!t250),(by first|rfl|(simp;done)|(simp [*];done)),H',⟨by first|omega|exact Nat.le_refl _⟩,⟨by repeat (first|(with_reducible first|exact HB.out|apply zJ|apply zG|apply zH)|exact HB.out)⟩⟩
 case rest =>
  clear HC4
  (try clear c1);(try clear p2);(try clear c3);(try clear c6);(try clear c8)
  obtain ⟨kq,x21_3,rfl,HA,HJ3,HB⟩:=hcut
  cases kq with
  | zero=>exact absurd HA.out (by simp [impl_FirstForRising.j0])
  | succ kj3 =>
   have H:=HA.out;clear HA
   simp only [impl_FirstForRising.j0] at H
   by_cases c10 : x21_3 = true
   · subst c10
     have H1 : (some (0,false)) = some (r1,r2):=by rw [if_pos rfl] at H;exact H
     clear H;have H:=H1;clear H1
     simp only [Option.some.injEq,Prod.mk.injEq] at H
     obtain ⟨rfl,rfl⟩:=H
     go_wp2
     go_ret2
     exact ⟨by first|rfl|(simp [errW_none,errW_some] <;> rfl)|(simp [*,errW_none,errW_some] <;> rfl),by repeat (first|(with_reducible first|exact HB.out|apply zJ|apply zG|apply zH)|exact HB.out)⟩
   replace c10:=Bool.eq_false_iff.mpr c10
   subst c10
   have H1 : (impl_FirstForRising.l0 kj3 a0 a1 a2 1) = some (r1,r2):=by rw [if_neg (show ¬ (false = true) by decide)] at H;exact H
   clear H;have H:=H1;clear H1;have H':=zI H;clear H
   go_wp2
   go_loopg [8] kj3 (fun kq v8 w'=>∃ (x8_2 : Int),v8 = .int .i64 x8_2 ∧ Aside0 (impl_FirstForRising.l0 kq a0 a1 a2 x8_2 = some (r1,r2)) ∧ Aside0 (kq ≤ kj3) ∧ Aside0 (Below w.heap.size w w'))
   case atStart=>exact ⟨(1),(by first|rfl|(simp;done)|(simp [*];done)),H',⟨Nat.le_refl _⟩,⟨by repeat (first|(with_reducible first|exact HB.out|apply zJ|apply zG|apply zH)|exact HB.out)⟩⟩
   case round =>
    clear H'
    (try clear c1);(try clear p2);(try clear c3);(try clear c6);(try clear c8);(try clear c10);(try clear p2)
    obtain ⟨x8_2,rfl,HA,HK2,HB⟩:=hrel
    cases gk with
    | zero=>exact absurd HA.out (by simp [impl_FirstForRising.l0])
    | succ k2 =>
     have H:=HA.out;clear HA
     simp only [impl_FirstForRising.l0] at H
     by_cases c11 : x8_2 ≤ 200
     rotate_left
     · rw [if_neg c11] at H
       have c11b0 : decide (x8_2 ≤ 200) = false:=decide_eq_false c11
       clear c11
       simp only [Option.some.injEq,Prod.mk.injEq] at H
       obtain ⟨rfl,rfl⟩:=H
       go_wp2
       go_ret2
       exact ⟨by first|rfl|(simp [errW_none,errW_some] <;> rfl)|(simp [*,errW_none,errW_some] <;> rfl),by repeat (first|(with_reducible first|exact HB.out|apply zJ|apply zG|apply zH)|exact HB.out)⟩
     rw [if_pos c11] at H
     have c11b0 : decide (x8_2 ≤ 200) = true:=decide_eq_true c11
     clear c11;replace H:=Option.bind_eq_some_iff.mp H
     obtain ⟨t251,A120,H⟩:=H
     replace H : (if (t251.length : Int) ≤ a1 then (some (x8_2,true)) else (impl_FirstForRising.l0 k2 a0 a1 a2 (wrap64 (x8_2 + 1)))) = some (r1,r2):=H
     have A12:=zI A120;clear A120
     by_cases c13 : (t251.length : Int) ≤ a1
     · rw [if_pos c13] at H
       have c13b0 : decide ((t251.length : Int) ≤ a1) = true:=decide_eq_true c13
       clear c13
       simp only [Option.some.injEq,Prod.mk.injEq] at H
       obtain ⟨rfl,rfl⟩:=H
       go_wp2_with (first|((with_reducible refine gate_callee (f:=35) rfl ?_);refine goesL_ (some 29) rfl rfl Try.func35 (by kernel_rfl) rfl #[.int .i64 a0,.int .i64 x8_2,.int .i64 a2] rfl (by (try simp only [List.map_toArray,List.map_cons,List.map_nil]);first|done|rfl|(simp only [List.length_drop,List.length_take];rfl)) ?_;(with_reducible refine (impl_rising.calls k2 a0 x8_2 a2 t251 _ A12.out).mono ?_);rintro e w14 ⟨v252,rfl,ho0,hb⟩;refine ⟨_,rfl,?_⟩;have n0_:=zI (Kd.R_lower ho0 (below_size (by repeat (first|(with_reducible first|exact HB.out|apply zJ|apply zG|apply zH)|exact HB.out))));have n1_:=zI (below_step (by repeat (first|(with_reducible first|exact HB.out|apply zJ|apply zG|apply zH)|exact HB.out)) hb);clear HB;have HO253:=n0_;have HB:=n1_;clear n0_ n1_;(try clear hb);(try clear hb2);(try clear hk);(try clear hi);(try clear ho0);obtain ⟨Ao15,co15,eo15⟩:=Kd.R_slice HO253.out;subst eo15))
       go_ret2
       exact ⟨by first|rfl|(simp [errW_none,errW_some] <;> rfl)|(simp [*,errW_none,errW_some] <;> rfl),by repeat (first|(with_reducible first|exact HB.out|apply zJ|apply zG|apply zH)|exact HB.out)⟩
     rw [if_neg c13] at H
     have c13b0 : decide ((t251.length : Int) ≤ a1) = false:=decide_eq_false c13
     clear c13;have H':=zI H;clear H
     go_wp2_with (first|((with_reducible refine gate_callee (f:=35) rfl ?_);refine goesL_ (some 29) rfl rfl Try.func35 (by kernel_rfl) rfl #[.int .i64 a0,.int .i64 x8_2,.int .i64 a2] rfl (by (try simp only [List.map_toArray,List.map_cons,List.map_nil]);first|done|rfl|(simp only [List.length_drop,List.length_take];rfl)) ?_;(with_reducible refine (impl_rising.calls k2 a0 x8_2 a2 t251 _ A12.out).mono ?_);rintro e w16 ⟨v252,rfl,ho0,hb⟩;refine ⟨_,rfl,?_⟩;have n0_:=zI (Kd.R_lower ho0 (below_size (by repeat (first|(with_reducible first|exact HB.out|apply zJ|apply zG|apply zH)|exact HB.out))));have n1_:=zI (below_step (by repeat (first|(with_reducible first|exact HB.out|apply zJ|apply zG|apply zH)|exact HB.out)) hb);clear HB;have HO253:=n0_;have HB:=n1_;clear n0_ n1_;(try clear hb);(try clear hb2);(try clear hk);(try clear hi);(try clear ho0);obtain ⟨Ao17,co17,eo17⟩:=Kd.R_slice HO253.out;subst eo17))
     go_roundg k2
     case measure=>have:=HJ3.out;have:=HK2.out;omega
     case rel=>exact ⟨(wrap64 (x8_2 + 1)),(by first|rfl|(simp;done)|(simp [*];done)),H',⟨by have:=HJ3.out;have:=HK2.out;omega⟩,⟨by repeat (first|(with_reducible first|exact HB.out|apply zJ|apply zG|apply zH)|exact HB.out)⟩⟩

/-! ### spec_FirstForRising: function 17 -/
mutual
def spec_FirstForRising.j0 : Nat → Int → Int → Int → Bool → Option (Int × Bool)
  | 0, _, _, _, _ => none
  | k + 1, x0, x1, x2, x21 => if x21 = true then (some (0, false)) else (spec_FirstForRising.l0 k x0 x1 x2 1)
def spec_FirstForRising.l0 : Nat → Int → Int → Int → Int → Option (Int × Bool)
  | 0, _, _, _, _ => none
  | k + 1, x0, x1, x2, x8 => if x8 ≤ 200 then ((spec_rdRising.f k x0 x8 x2).bind fun t257 => (if (t257.length : Int) ≤ x1 then (some (x8, true)) else (spec_FirstForRising.l0 k x0 x1 x2 (wrap64 (x8 + 1))))) else (some (0, false))
end
def spec_FirstForRising.f (k : Nat) (a0 : Int) (a1 : Int) (a2 : Int) : Option (Int × Bool) := (spec_bpBook.f a0).bind fun t254 => (if t254 = true then ((spec_l1In.f a1 1 3000).bind fun t255 => (if t255 = true then ((spec_l1In.f a2 0 200).bind fun t256 => (spec_FirstForRising.j0 k a0 a1 a2 (!t256))) else (spec_FirstForRising.j0 k a0 a1 a2 true))) else (spec_FirstForRising.j0 k a0 a1 a2 true))
theorem spec_FirstForRising.mono_l : ∀ k, (∀ y0 y1 y2 y3, LeO (spec_FirstForRising.j0 k y0 y1 y2 y3) (spec_FirstForRising.j0 (k + 1) y0 y1 y2 y3)) ∧ (∀ y0 y1 y2 y3, LeO (spec_FirstForRising.l0 k y0 y1 y2 y3) (spec_FirstForRising.l0 (k + 1) y0 y1 y2 y3))
  | 0 => ⟨fun _ _ _ _ r h => by simp [spec_FirstForRising.j0] at h, fun _ _ _ _ r h => by simp [spec_FirstForRising.l0] at h⟩
  | k + 1 => by
    obtain ⟨ih0, ih1⟩ := spec_FirstForRising.mono_l k
    refine ⟨?_, ?_⟩
    · intro y0 y1 y2 y3
      unfold spec_FirstForRising.j0
      repeat' first
      | (with_reducible exact ih0 _ _ _ _)
      | (with_reducible exact ih1 _ _ _ _)
      | (with_reducible exact spec_rdRising.mono _ _ _ _)
      | (with_reducible exact LeO.refl _)
      | (with_reducible exact LeO.none _)
      | (with_reducible refine LeO.ite ?_ ?_)
      | (with_reducible refine LeO.bind ?_ (fun _ => ?_))
      | exact ih0 _ _ _ _
      | exact ih1 _ _ _ _
      | exact spec_rdRising.mono _ _ _ _
      | exact LeO.none _
      | refine LeO.ite ?_ ?_
      | refine LeO.bind ?_ (fun _ => ?_)
    · intro y0 y1 y2 y3
      unfold spec_FirstForRising.l0
      repeat' first
      | (with_reducible exact ih0 _ _ _ _)
      | (with_reducible exact ih1 _ _ _ _)
      | (with_reducible exact spec_rdRising.mono _ _ _ _)
      | (with_reducible exact LeO.refl _)
      | (with_reducible exact LeO.none _)
      | (with_reducible refine LeO.ite ?_ ?_)
      | (with_reducible refine LeO.bind ?_ (fun _ => ?_))
      | exact ih0 _ _ _ _
      | exact ih1 _ _ _ _
      | exact spec_rdRising.mono _ _ _ _
      | exact LeO.none _
      | refine LeO.ite ?_ ?_
      | refine LeO.bind ?_ (fun _ => ?_)
theorem spec_FirstForRising.mono : ∀ a0 a1 a2 k, LeO (spec_FirstForRising.f k a0 a1 a2) (spec_FirstForRising.f (k + 1) a0 a1 a2) := by
  intro a0 a1 a2 k
  obtain ⟨ih0, ih1⟩ := spec_FirstForRising.mono_l k
  unfold spec_FirstForRising.f
  repeat' first
      | (with_reducible exact ih0 _ _ _ _)
      | (with_reducible exact ih1 _ _ _ _)
      | (with_reducible exact spec_rdRising.mono _ _ _ _)
      | (with_reducible exact LeO.refl _)
      | (with_reducible exact LeO.none _)
      | (with_reducible refine LeO.ite ?_ ?_)
      | (with_reducible refine LeO.bind ?_ (fun _ => ?_))
      | exact ih0 _ _ _ _
      | exact ih1 _ _ _ _
      | exact spec_rdRising.mono _ _ _ _
      | exact LeO.none _
      | refine LeO.ite ?_ ?_
      | refine LeO.bind ?_ (fun _ => ?_)
set_option maxHeartbeats 8000000 in
set_option maxRecDepth 100000 in
theorem spec_FirstForRising.calls (k : Nat) (a0 : Int) (a1 : Int) (a2 : Int) (r1 : Int) (r2 : Bool) (w : World) (h : spec_FirstForRising.f k a0 a1 a2 = some (r1, r2)) :
    Calls Try.prog 17 #[.int .i64 a0, .int .i64 a1, .int .i64 a2] w fun e w' => e = .returned (.tuple #[.int .i64 r1, .bool r2]) ∧ Below w.heap.size w w' := by
 have HB:=zI (Below.refl w.heap.size w)
 have H : ((spec_bpBook.f a0).bind fun t254=>(if t254 = true then ((spec_l1In.f a1 1 3000).bind fun t255=>(if t255 = true then ((spec_l1In.f a2 0 200).bind fun t256=>(spec_FirstForRising.j0 k a0 a1 a2 (!t256))) else (spec_FirstForRising.j0 k a0 a1 a2 true))) else (spec_FirstForRising.j0 k a0 a1 a2 true))) = some (r1,r2):=h
 clear h;have HC4:=zI H;clear H
 go_enter Try.func17,Try.ntmps17
 go_upto_region 1 with (fail)
 go_cut [21] (fun v21 wc=>∃ (kq : Nat) (x21_3 : Bool),v21 = .bool x21_3 ∧ Aside0 (spec_FirstForRising.j0 kq a0 a1 a2 x21_3 = some (r1,r2)) ∧ Aside0 (kq ≤ k) ∧ Aside0 (Below w.heap.size w wc))
 case first =>
  have H:=HC4.out;clear HC4;replace H:=Option.bind_eq_some_iff.mp H
  obtain ⟨t254,A50,H⟩:=H
  replace H : (if t254 = true then ((spec_l1In.f a1 1 3000).bind fun t255=>(if t255 = true then ((spec_l1In.f a2 0 200).bind fun t256=>(spec_FirstForRising.j0 k a0 a1 a2 (!t256))) else (spec_FirstForRising.j0 k a0 a1 a2 true))) else (spec_FirstForRising.j0 k a0 a1 a2 true)) = some (r1,r2):=H
  have A5:=zI A50;clear A50
  by_cases c6 : t254 = true
  rotate_left
  · replace c6:=Bool.eq_false_iff.mpr c6
    subst c6
    have H1 : (spec_FirstForRising.j0 k a0 a1 a2 true) = some (r1,r2):=by rw [if_neg (show ¬ (false = true) by decide)] at H;exact H
    clear H;have H:=H1;clear H1;have H':=zI H;clear H
    go_wp2_with (first|((with_reducible refine gate_callee (f:=36) rfl ?_);refine goesL_ (some 10) rfl rfl Try.func36 (by kernel_rfl) rfl #[.int .i64 a0] rfl (by (try simp only [List.map_toArray,List.map_cons,List.map_nil]);first|done|rfl|(simp only [List.length_drop,List.length_take];rfl)) ?_;(with_reducible refine (spec_bpBook.calls a0 false _ A5.out).mono ?_);rintro e w' ⟨rfl,⟨nd,rfl⟩⟩;refine ⟨_,rfl,?_⟩))
    go_meet
    case rel=>exact ⟨_,(true),(by first|rfl|(simp;done)|(simp [*];done)),H',⟨by first|omega|exact Nat.le_refl _⟩,⟨by repeat (first|(with_reducible first|exact HB.out|apply zJ|apply zG|apply zH)|exact HB.out)⟩⟩
  subst c6
  have H1 : ((spec_l1In.f a1 1 3000).bind fun t255=>(if t255 = true then ((spec_l1In.f a2 0 200).bind fun t256=>(spec_FirstForRising.j0 k a0 a1 a2 (!t256))) else (spec_FirstForRising.j0 k a0 a1 a2 true))) = some (r1,r2):=by rw [if_pos rfl] at H;exact H
  clear H;have H:=H1;clear H1;replace H:=Option.bind_eq_some_iff.mp H
  obtain ⟨t255,A70,H⟩:=H
  replace H : (if t255 = true then ((spec_l1In.f a2 0 200).bind fun t256=>(spec_FirstForRising.j0 k a0 a1 a2 (!t256))) else (spec_FirstForRising.j0 k a0 a1 a2 true)) = some (r1,r2):=H
  have A7:=zI A70;clear A70
  by_cases c8 : t255 = true
  rotate_left
  · replace c8:=Bool.eq_false_iff.mpr c8
    subst c8
    have H1 : (spec_FirstForRising.j0 k a0 a1 a2 true) = some (r1,r2):=by rw [if_neg (show ¬ (false = true) by decide)] at H;exact H
    clear H;have H:=H1;clear H1;have H':=zI H;clear H
    go_wp2_with (first|((with_reducible refine gate_callee (f:=36) rfl ?_);refine goesL_ (some 10) rfl rfl Try.func36 (by kernel_rfl) rfl #[.int .i64 a0] rfl (by (try simp only [List.map_toArray,List.map_cons,List.map_nil]);first|done|rfl|(simp only [List.length_drop,List.length_take];rfl)) ?_;(with_reducible refine (spec_bpBook.calls a0 true _ A5.out).mono ?_);rintro e w' ⟨rfl,⟨nd,rfl⟩⟩;refine ⟨_,rfl,?_⟩)|(go_at_call 37;(with_reducible refine (spec_l1In.calls a1 1 3000 false _ A7.out).mono ?_);rintro e w' ⟨rfl,⟨nd,rfl⟩⟩))
    go_meet
    case rel=>exact ⟨_,(true),(by first|rfl|(simp;done)|(simp [*];done)),H',⟨by first|omega|exact Nat.le_refl _⟩,⟨by repeat (first|(with_reducible first|exact HB.out|apply zJ|apply zG|apply zH)|exact HB.out)⟩⟩
  subst c8
  have H1 : ((spec_l1In.f a2 0 200).bind fun t256=>(spec_FirstForRising.j0 k a0 a1 a2 (!t256))) = some (r1,r2):=by rw [if_pos rfl] at H;exact H
  clear H;have H:=H1;clear H1;replace H:=Option.bind_eq_some_iff.mp H
  obtain ⟨t256,A90,H⟩:=H
  replace H : (spec_FirstForRising.j0 k a0 a1 a2 (!t256)) = some (r1,r2):=H
  have A9:=zI A90;clear A90;have H':=zI H;clear H
  go_wp2_with (first|((with_reducible refine gate_callee (f:=36) rfl ?_);refine goesL_ (some 10) rfl rfl Try.func36 (by kernel_rfl) rfl #[.int .i64 a0] rfl (by (try simp only [List.map_toArray,List.map_cons,List.map_nil]);first|done|rfl|(simp only [List.length_drop,List.length_take];rfl)) ?_;(with_reducible refine (spec_bpBook.calls a0 true _ A5.out).mono ?_);rintro e w' ⟨rfl,⟨nd,rfl⟩⟩;refine ⟨_,rfl,?_⟩)|(go_at_call 37;(with_reducible refine (spec_l1In.calls a1 1 3000 true _ A7.out).mono ?_);rintro e w' ⟨rfl,⟨nd,rfl⟩⟩)|(go_at_call 37;(with_reducible refine (spec_l1In.calls a2 0 200 t256 _ A9.out).mono ?_);rintro e w' ⟨rfl,⟨nd,rfl⟩⟩))
  go_meet
  case rel=>exact ⟨_,(!t256),(by first|rfl|(simp;done)|(simp [*];done)),H',⟨by first|omega|exact Nat.le_refl _⟩,⟨by repeat (first|(with_reducible first|exact HB.out|apply zJ|apply zG|apply zH)|exact HB.out)⟩⟩
 case rest =>
  clear HC4
  (try clear c1);(try clear p2);(try clear c3);(try clear c6);(try clear c8)
  obtain ⟨kq,x21_3,rfl,HA,HJ3,HB⟩:=hcut
  cases kq with
  | zero=>exact absurd HA.out (by simp [spec_FirstForRising.j0])
  | succ kj3 =>
   have H:=HA.out;clear HA
   simp only [spec_FirstForRising.j0] at H
   by_cases c10 : x21_3 = true
   · subst c10
     have H1 : (some (0,false)) = some (r1,r2):=by rw [if_pos rfl] at H;exact H
     clear H;have H:=H1;clear H1
     simp only [Option.some.injEq,Prod.mk.injEq] at H
     obtain ⟨rfl,rfl⟩:=H
     go_wp2
     go_ret2
     exact ⟨by first|rfl|(simp [errW_none,errW_some] <;> rfl)|(simp [*,errW_none,errW_some] <;> rfl),by repeat (first|(with_reducible first|exact HB.out|apply zJ|apply zG|apply zH)|exact HB.out)⟩
   replace c10:=Bool.eq_false_iff.mpr c10
   subst c10
   have H1 : (spec_FirstForRising.l0 kj3 a0 a1 a2 1) = some (r1,r2):=by rw [if_neg (show ¬ (false = true) by decide)] at H;exact H
   clear H;have H:=H1;clear H1;have H':=zI H;clear H
   go_wp2
   go_loopg [8] kj3 (fun kq v8 w'=>∃ (x8_2 : Int),v8 = .int .i64 x8_2 ∧ Aside0 (spec_FirstForRising.l0 kq a0 a1 a2 x8_2 = some (r1,r2)) ∧ Aside0 (kq ≤ kj3) ∧ Aside0 (Below w.heap.size w w'))
   case atStart=>exact ⟨(1),(by first|rfl|(simp;done)|(simp [*];done)),H',⟨Nat.le_refl _⟩,⟨by repeat (first|(with_reducible first|exact HB.out|apply zJ|apply zG|apply zH)|exact HB.out)⟩⟩
   case round =>
    clear H'
    (try clear c1);(try clear p2);(try clear c3);(try clear c6);(try clear c8);(try clear c10);(try clear p2)
    obtain ⟨x8_2,rfl,HA,HK2,HB⟩:=hrel
    cases gk with
    | zero=>exact absurd HA.out (by simp [spec_FirstForRising.l0])
    | succ k2 =>
     have H:=HA.out;clear HA
     simp only [spec_FirstForRising.l0] at H
     by_cases c11 : x8_2 ≤ 200
     rotate_left
     · rw [if_neg c11] at H
       have c11b0 : decide (x8_2 ≤ 200) = false:=decide_eq_false c11
       clear c11
       simp only [Option.some.injEq,Prod.mk.injEq] at H
       obtain ⟨rfl,rfl⟩:=H
       go_wp2
       go_ret2
       exact ⟨by first|rfl|(simp [errW_none,errW_some] <;> rfl)|(simp [*,errW_none,errW_some] <;> rfl),by repeat (first|(with_reducible first|exact HB.out|apply zJ|apply zG|apply zH)|exact HB.out)⟩
     rw [if_pos c11] at H
     have c11b0 : decide (x8_2 ≤ 200) = true:=decide_eq_true c11
     clear c11;replace H:=Option.bind_eq_some_iff.mp H
     obtain ⟨t257,A120,H⟩:=H
     replace H : (if (t257.length : Int) ≤ a1 then (some (x8_2,true)) else (spec_FirstForRising.l0 k2 a0 a1 a2 (wrap64 (x8_2 + 1)))) = some (r1,r2):=H
     have A12:=zI A120;clear A120
     by_cases c13 : (t257.length : Int) ≤ a1
     · rw [if_pos c13] at H
       have c13b0 : decide ((t257.length : Int) ≤ a1) = true:=decide_eq_true c13
       clear c13
       simp only [Option.some.injEq,Prod.mk.injEq] at H
       obtain ⟨rfl,rfl⟩:=H
       go_wp2_with (first|((with_reducible refine gate_callee (f:=38) rfl ?_);refine goesL_ (some 29) rfl rfl Try.func38 (by kernel_rfl) rfl #[.int .i64 a0,.int .i64 x8_2,.int .i64 a2] rfl (by (try simp only [List.map_toArray,List.map_cons,List.map_nil]);first|done|rfl|(simp only [List.length_drop,List.length_take];rfl)) ?_;(with_reducible refine (spec_rdRising.calls k2 a0 x8_2 a2 t257 _ A12.out).mono ?_);rintro e w14 ⟨v258,rfl,ho0,hb⟩;refine ⟨_,rfl,?_⟩;have n0_:=zI (Kd.R_lower ho0 (below_size (by repeat (first|(with_reducible first|exact HB.out|apply zJ|apply zG|apply zH)|exact HB.out))));have n1_:=zI (below_step (by repeat (first|(with_reducible first|exact HB.out|apply zJ|apply zG|apply zH)|exact HB.out)) hb);clear HB;have HO259:=n0_;have HB:=n1_;clear n0_ n1_;(try clear hb);(try clear hb2);(try clear hk);(try clear hi);(try clear ho0);obtain ⟨Ao15,co15,eo15⟩:=Kd.R_slice HO259.out;subst eo15))
       go_ret2
       exact ⟨by first|rfl|(simp [errW_none,errW_some] <;> rfl)|(simp [*,errW_none,errW_some] <;> rfl),by repeat (first|(with_reducible first|exact HB.out|apply zJ|apply zG|apply zH)|exact HB.out)⟩
     rw [if_neg c13] at H
     have c13b0 : decide ((t257.length : Int) ≤ a1) = false:=decide_eq_false c13
     clear c13;have H':=zI H;clear H
     go_wp2_with (first|((with_reducible refine gate_callee (f:=38) rfl ?_);refine goesL_ (some 29) rfl rfl Try.func38 (by kernel_rfl) rfl #[.int .i64 a0,.int .i64 x8_2,.int .i64 a2] rfl (by (try simp only [List.map_toArray,List.map_cons,List.map_nil]);first|done|rfl|(simp only [List.length_drop,List.length_take];rfl)) ?_;(with_reducible refine (spec_rdRising.calls k2 a0 x8_2 a2 t257 _ A12.out).mono ?_);rintro e w16 ⟨v258,rfl,ho0,hb⟩;refine ⟨_,rfl,?_⟩;have n0_:=zI (Kd.R_lower ho0 (below_size (by repeat (first|(with_reducible first|exact HB.out|apply zJ|apply zG|apply zH)|exact HB.out))));have n1_:=zI (below_step (by repeat (first|(with_reducible first|exact HB.out|apply zJ|apply zG|apply zH)|exact HB.out)) hb);clear HB;have HO259:=n0_;have HB:=n1_;clear n0_ n1_;(try clear hb);(try clear hb2);(try clear hk);(try clear hi);(try clear ho0);obtain ⟨Ao17,co17,eo17⟩:=Kd.R_slice HO259.out;subst eo17))
     go_roundg k2
     case measure=>have:=HJ3.out;have:=HK2.out;omega
     case rel=>exact ⟨(wrap64 (x8_2 + 1)),(by first|rfl|(simp;done)|(simp [*];done)),H',⟨by have:=HJ3.out;have:=HK2.out;omega⟩,⟨by repeat (first|(with_reducible first|exact HB.out|apply zJ|apply zG|apply zH)|exact HB.out)⟩⟩

/-! ### spec_l1Cur_part: function 41 -/
def spec_l1Cur_part.f (s0_0 : List Int) (s0_1 : Int) (s0_2 : Int) : Option (Int × Int × Int × Int) := (spec_l1Cur_one.f s0_0 s0_1 s0_2 10).bind fun bt260 => (if bt260.1 = true then ((spec_l1Cur_among.f s0_0 bt260.2.1 bt260.2.2 (([(-1), 0, 1, 2, 199] : List Int))).bind fun bt266 => ((spec_l1Cur_among.f s0_0 bt266.2.1 bt266.2.2 (([0, 1, 2, 200, 201] : List Int))).bind fun bt272 => (some (bt266.1, bt272.1, bt272.2.1, bt272.2.2)))) else ((spec_l1Cur_pick.f s0_0 bt260.2.1 bt260.2.2 8).bind fun bt275 => ((spec_l1Cur_pick.f s0_0 bt275.2.1 bt275.2.2 (wrap64 ((wrap64 (2 + bt275.1)) - 1))).bind fun bt278 => (some (wrap64 (1 + bt278.1), wrap64 (2 + bt275.1), bt278.2.1, bt278.2.2)))))
set_option maxHeartbeats 8000000 in
set_option maxRecDepth 100000 in
theorem spec_l1Cur_part.calls (g : Nat) (s0_0 : List Int) (s0_1 : Int) (s0_2 : Int) (r1 : Int) (r2 : Int) (r3 : Int) (r4 : Int) (w0 w : World) (hI : IsS42 w0 w g s0_0 s0_1 s0_2) (hB : Below w0.heap.size w0 w) (h : spec_l1Cur_part.f s0_0 s0_1 s0_2 = some (r1, r2, r3, r4)) :
    Calls Try.prog 41 #[.pointer (some ⟨g, 0, none⟩)] w fun e w' => e = .returned (.tuple #[.int .i64 r1, .int .i64 r2]) ∧ IsS42 w0 w' g s0_0 r3 r4 ∧ Below w0.heap.size w0 w' ∧ KeepBut w w' g none := by
 have HI0:=zI hI
 have HK:=zI (KeepBut.refl w g none)
 have HL:=zI hB.size;clear hI;have HW0:=zI hB.size;have HB:=zI hB;clear hB
 have H : ((spec_l1Cur_one.f s0_0 s0_1 s0_2 10).bind fun bt260=>(if bt260.1 = true then ((spec_l1Cur_among.f s0_0 bt260.2.1 bt260.2.2 (([(-1),0,1,2,199] : List Int))).bind fun bt266=>((spec_l1Cur_among.f s0_0 bt266.2.1 bt266.2.2 (([0,1,2,200,201] : List Int))).bind fun bt272=>(some (bt266.1,bt272.1,bt272.2.1,bt272.2.2)))) else ((spec_l1Cur_pick.f s0_0 bt260.2.1 bt260.2.2 8).bind fun bt275=>((spec_l1Cur_pick.f s0_0 bt275.2.1 bt275.2.2 (wrap64 ((wrap64 (2 + bt275.1)) - 1))).bind fun bt278=>(some (wrap64 (1 + bt278.1),wrap64 (2 + bt275.1),bt278.2.1,bt278.2.2)))))) = some (r1,r2,r3,r4):=h
 clear h;replace H:=Option.bind_eq_some_iff.mp H
 obtain ⟨⟨t260,t261,t262⟩,A20,H⟩:=H
 replace H : (if t260 = true then ((spec_l1Cur_among.f s0_0 t261 t262 (([(-1),0,1,2,199] : List Int))).bind fun bt266=>((spec_l1Cur_among.f s0_0 bt266.2.1 bt266.2.2 (([0,1,2,200,201] : List Int))).bind fun bt272=>(some (bt266.1,bt272.1,bt272.2.1,bt272.2.2)))) else ((spec_l1Cur_pick.f s0_0 t261 t262 8).bind fun bt275=>((spec_l1Cur_pick.f s0_0 bt275.2.1 bt275.2.2 (wrap64 ((wrap64 (2 + bt275.1)) - 1))).bind fun bt278=>(some (wrap64 (1 + bt278.1),wrap64 (2 + bt275.1),bt278.2.1,bt278.2.2))))) = some (r1,r2,r3,r4):=H
 have A2:=zI A20;clear A20
 by_cases c3 : t260 = true
 rotate_left
 · replace c3:=Bool.eq_false_iff.mpr c3
   subst c3
   have H1 : ((spec_l1Cur_pick.f s0_0 t261 t262 8).bind fun bt275=>((spec_l1Cur_pick.f s0_0 bt275.2.1 bt275.2.2 (wrap64 ((wrap64 (2 + bt275.1)) - 1))).bind fun bt278=>(some (wrap64 (1 + bt278.1),wrap64 (2 + bt275.1),bt278.2.1,bt278.2.2)))) = some (r1,r2,r3,r4):=by rw [if_neg (show ¬ (false = true) by decide)] at H;exact H
   clear H;have H:=H1;clear H1;replace H:=Option.bind_eq_some_iff.mp H
   obtain ⟨⟨t275,t276,t277⟩,A150,H⟩:=H
   replace H : ((spec_l1Cur_pick.f s0_0 t276 t277 (wrap64 ((wrap64 (2 + t275)) - 1))).bind fun bt278=>(some (wrap64 (1 + bt278.1),wrap64 (2 + t275),bt278.2.1,bt278.2.2))) = some (r1,r2,r3,r4):=H
   have A15:=zI A150;clear A150;replace H:=Option.bind_eq_some_iff.mp H
   obtain ⟨⟨t278,t279,t280⟩,A160,H⟩:=H
   replace H : (some (wrap64 (1 + t278),wrap64 (2 + t275),t279,t280)) = some (r1,r2,r3,r4):=H
   have A16:=zI A160;clear A160
   simp only [Option.some.injEq,Prod.mk.injEq] at H
   obtain ⟨rfl,rfl,rfl,rfl⟩:=H
   go_enter Try.func41,Try.ntmps41
   go_wp2_with (first|((with_reducible refine gate_callee (f:=46) rfl ?_);refine goesL_ (some 6) rfl rfl Try.func46 (by kernel_rfl) rfl #[.pointer (some ⟨g,0,none⟩),.int .i64 10] rfl (by (try simp only [List.map_toArray,List.map_cons,List.map_nil]);first|done|rfl|(simp only [List.length_drop,List.length_take];rfl)) ?_;(with_reducible refine (spec_l1Cur_one.calls g s0_0 s0_1 s0_2 10 false t261 t262 w0 _ ?side1 ?side2 A2.out).mono ?_);(case side1=>repeat (first|(with_reducible first|exact HI0.out|apply IsS42.alloc|apply IsS42.drewN|apply IsS42.drew|apply IsS42.set_1|apply IsS42.set_2)|exact HI0.out));(case side2=>repeat (first|(with_reducible first|exact HB.out|apply zJ|apply zG|apply zH|refine zK ?_ (IsS42.ge HI0.out))|exact HB.out));rintro e w17 ⟨rfl,hi,hb,hk⟩;refine ⟨_,rfl,?_⟩;have n0_:=zI (KeepBut.trans (by repeat (first|(with_reducible first|exact HK.out|apply KeepBut.set_|apply keep_drewN|apply keep_drew|apply keep_alloc)|exact HK.out)) hk (.inl rfl));have n1_:=zI (hb);have n2_:=zI (hi);clear HK;clear HB;clear HI0;have HK:=n0_;have HB:=n1_;have HI0:=n2_;clear n0_ n1_ n2_;(try clear hb);(try clear hb2);(try clear hk);(try clear hi))|((with_reducible refine gate_callee (f:=45) rfl ?_);refine goesL_ (some 14) rfl rfl Try.func45 (by kernel_rfl) rfl #[.pointer (some ⟨g,0,none⟩),.int .i64 8] rfl (by (try simp only [List.map_toArray,List.map_cons,List.map_nil]);first|done|rfl|(simp only [List.length_drop,List.length_take];rfl)) ?_;(with_reducible refine (spec_l1Cur_pick.calls g s0_0 t261 t262 8 t275 t276 t277 w0 _ ?side1 ?side2 A15.out).mono ?_);(case side1=>repeat (first|(with_reducible first|exact HI0.out|apply IsS42.alloc|apply IsS42.drewN|apply IsS42.drew|apply IsS42.set_1|apply IsS42.set_2)|exact HI0.out));(case side2=>repeat (first|(with_reducible first|exact HB.out|apply zJ|apply zG|apply zH|refine zK ?_ (IsS42.ge HI0.out))|exact HB.out));rintro e w18 ⟨rfl,hi,hb,hk⟩;refine ⟨_,rfl,?_⟩;have n0_:=zI (KeepBut.trans (by repeat (first|(with_reducible first|exact HK.out|apply KeepBut.set_|apply keep_drewN|apply keep_drew|apply keep_alloc)|exact HK.out)) hk (.inl rfl));have n1_:=zI (hb);have n2_:=zI (hi);clear HK;clear HB;clear HI0;have HK:=n0_;have HB:=n1_;have HI0:=n2_;clear n0_ n1_ n2_;(try clear hb);(try clear hb2);(try clear hk);(try clear hi))|((with_reducible refine gate_callee (f:=45) rfl ?_);refine goesL_ (some 19) rfl rfl Try.func45 (by kernel_rfl) rfl #[.pointer (some ⟨g,0,none⟩),.int .i64 (wrap64 ((wrap64 (2 + t275)) - 1))] rfl (by (try simp only [List.map_toArray,List.map_cons,List.map_nil]);first|done|rfl|(simp only [List.length_drop,List.length_take];rfl)) ?_;(with_reducible refine (spec_l1Cur_pick.calls g s0_0 t276 t277 (wrap64 ((wrap64 (2 + t275)) - 1)) t278 t279 t280 w0 _ ?side1 ?side2 A16.out).mono ?_);(case side1=>repeat (first|(with_reducible first|exact HI0.out|apply IsS42.alloc|apply IsS42.drewN|apply IsS42.drew|apply IsS42.set_1|apply IsS42.set_2)|exact HI0.out));(case side2=>repeat (first|(with_reducible first|exact HB.out|apply zJ|apply zG|apply zH|refine zK ?_ (IsS42.ge HI0.out))|exact HB.out));rintro e w19 ⟨rfl,hi,hb,hk⟩;refine ⟨_,rfl,?_⟩;have n0_:=zI (KeepBut.trans (by repeat (first|(with_reducible first|exact HK.out|apply KeepBut.set_|apply keep_drewN|apply keep_drew|apply keep_alloc)|exact HK.out)) hk (.inl rfl));have n1_:=zI (hb);have n2_:=zI (hi);clear HK;clear HB;clear HI0;have HK:=n0_;have HB:=n1_;have HI0:=n2_;clear n0_ n1_ n2_;(try clear hb);(try clear hb2);(try clear hk);(try clear hi)))
   go_ret2
   exact ⟨by first|rfl|(simp [errW_none,errW_some] <;> rfl)|(simp [*,errW_none,errW_some] <;> rfl),by repeat (first|(with_reducible first|exact HI0.out|apply IsS42.alloc|apply IsS42.drewN|apply IsS42.drew|apply IsS42.set_1|apply IsS42.set_2)|exact HI0.out),by repeat (first|(with_reducible first|exact HB.out|apply zJ|apply zG|apply zH|refine zK ?_ (IsS42.ge HI0.out))|exact HB.out),by repeat (first|(with_reducible first|exact HK.out|apply KeepBut.set_|apply keep_drewN|apply keep_drew|apply keep_alloc)|exact HK.out)⟩
 subst c3
 have H1 : ((spec_l1Cur_among.f s0_0 t261 t262 (([(-1),0,1,2,199] : List Int))).bind fun bt266=>((spec_l1Cur_among.f s0_0 bt266.2.1 bt266.2.2 (([0,1,2,200,201] : List Int))).bind fun bt272=>(some (bt266.1,bt272.1,bt272.2.1,bt272.2.2)))) = some (r1,r2,r3,r4):=by rw [if_pos rfl] at H;exact H
 clear H;have H:=H1;clear H1
 obtain ⟨y263,hy263⟩ : ∃ y_ : List Int,y_ = (([(-1),0,1,2,199] : List Int)):=⟨_,rfl⟩
 replace H : ((spec_l1Cur_among.f s0_0 t261 t262 y263).bind fun bt266=>((spec_l1Cur_among.f s0_0 bt266.2.1 bt266.2.2 (([0,1,2,200,201] : List Int))).bind fun bt272=>(some (bt266.1,bt272.1,bt272.2.1,bt272.2.2)))) = some (r1,r2,r3,r4):=by first|(rw [hy263];with_reducible exact H)|(have H2_:=(Option.bind_some _ _).symm.trans H;rw [hy263];with_reducible exact H2_)|(have H2_:=(Option.bind_some _ _).symm.trans H;with_reducible exact H2_)|with_reducible exact H|(rw [hy263];exact H)|exact H
 have Ny263:=zI hy263;clear hy263;replace H:=Option.bind_eq_some_iff.mp H
 obtain ⟨⟨t266,t267,t268⟩,A40,H⟩:=H
 replace H : ((spec_l1Cur_among.f s0_0 t267 t268 (([0,1,2,200,201] : List Int))).bind fun bt272=>(some (t266,bt272.1,bt272.2.1,bt272.2.2))) = some (r1,r2,r3,r4):=H
 have A4:=zI A40;clear A40
 obtain ⟨y269,hy269⟩ : ∃ y_ : List Int,y_ = (([0,1,2,200,201] : List Int)):=⟨_,rfl⟩
 replace H : ((spec_l1Cur_among.f s0_0 t267 t268 y269).bind fun bt272=>(some (t266,bt272.1,bt272.2.1,bt272.2.2))) = some (r1,r2,r3,r4):=by first|(rw [hy269];with_reducible exact H)|(have H2_:=(Option.bind_some _ _).symm.trans H;rw [hy269];with_reducible exact H2_)|(have H2_:=(Option.bind_some _ _).symm.trans H;with_reducible exact H2_)|with_reducible exact H|(rw [hy269];exact H)|exact H
 have Ny269:=zI hy269;clear hy269;replace H:=Option.bind_eq_some_iff.mp H
 obtain ⟨⟨t272,t273,t274⟩,A50,H⟩:=H
 replace H : (some (t266,t272,t273,t274)) = some (r1,r2,r3,r4):=H
 have A5:=zI A50;clear A50
 simp only [Option.some.injEq,Prod.mk.injEq] at H
 obtain ⟨rfl,rfl,rfl,rfl⟩:=H
 go_enter Try.func41,Try.ntmps41
 go_wp2_with (first|((with_reducible refine gate_callee (f:=46) rfl ?_);refine goesL_ (some 6) rfl rfl Try.func46 (by kernel_rfl) rfl #[.pointer (some ⟨g,0,none⟩),.int .i64 10] rfl (by (try simp only [List.map_toArray,List.map_cons,List.map_nil]);first|done|rfl|(simp only [List.length_drop,List.length_take];rfl)) ?_;(with_reducible refine (spec_l1Cur_one.calls g s0_0 s0_1 s0_2 10 true t261 t262 w0 _ ?side1 ?side2 A2.out).mono ?_);(case side1=>repeat (first|(with_reducible first|exact HI0.out|apply IsS42.alloc|apply IsS42.drewN|apply IsS42.drew|apply IsS42.set_1|apply IsS42.set_2)|exact HI0.out));(case side2=>repeat (first|(with_reducible first|exact HB.out|apply zJ|apply zG|apply zH|refine zK ?_ (IsS42.ge HI0.out))|exact HB.out));rintro e w6 ⟨rfl,hi,hb,hk⟩;refine ⟨_,rfl,?_⟩;have n0_:=zI (KeepBut.trans (by repeat (first|(with_reducible first|exact HK.out|apply KeepBut.set_|apply keep_drewN|apply keep_drew|apply keep_alloc)|exact HK.out)) hk (.inl rfl));have n1_:=zI (hb);have n2_:=zI (hi);clear HK;clear HB;clear HI0;have HK:=n0_;have HB:=n1_;have HI0:=n2_;clear n0_ n1_ n2_;(try clear hb);(try clear hb2);(try clear hk);(try clear hi))|((with_reducible refine gate_dst (N:=8) rfl ?_);refine Kd.R_lit (Kd.int .i64) _ 3 ?hg (N:=8) ?hd (xs:=([(-1),0,1,2,199] : List Int)) (inner:=[.int .i64 (-1),.int .i64 0,.int .i64 1,.int .i64 2,.int .i64 199]) (ok:=fun _=>True) (okp:=fun _=>True) ?hr ?hp (fun _ hk=>hk) trivial (Below.refl _ _) (Nat.le_refl _) (by simp) ?_;(case hd=>rfl);(case hg=>rfl);(case hr=>first|(go_simp;done)|(go_simp;rfl));(case hp=>exact (Reps.one (show Kd.M (Kd.int .i64) _ _ _ (-1) [.int .i64 (-1)] from rfl) (Reps.one (show Kd.M (Kd.int .i64) _ _ _ 0 [.int .i64 0] from rfl) (Reps.one (show Kd.M (Kd.int .i64) _ _ _ 1 [.int .i64 1] from rfl) (Reps.one (show Kd.M (Kd.int .i64) _ _ _ 2 [.int .i64 2] from rfl) (Reps.one (show Kd.M (Kd.int .i64) _ _ _ 199 [.int .i64 199] from rfl) (Reps.none _ _)))))));intro v264 w7 ho8 hb hg_ hnew_;clear hg_ hnew_;(first|rw [← Ny263.out] at ho8|(simp only [Int.reduceToNat] at ho8;rw [← Ny263.out] at ho8));have n0_:=zI (Kd.R_lower ho8 (keep_size (w:=w) (g:=g) (row:=none) (by repeat (first|(with_reducible first|exact HK.out|apply KeepBut.set_|apply keep_drewN|apply keep_drew|apply keep_alloc)|exact HK.out))));have n1_:=zI (IsS42.below (by repeat (first|(with_reducible first|exact HI0.out|apply IsS42.alloc|apply IsS42.drewN|apply IsS42.drew|apply IsS42.set_1|apply IsS42.set_2)|exact HI0.out)) hb);have n2_:=zI (KeepBut.trans (by repeat (first|(with_reducible first|exact HK.out|apply KeepBut.set_|apply keep_drewN|apply keep_drew|apply keep_alloc)|exact HK.out)) (KeepBut.of_below hb g none) (.inl rfl));have n3_:=zI (below_step (by repeat (first|(with_reducible first|exact HB.out|apply zJ|apply zG|apply zH|refine zK ?_ (IsS42.ge HI0.out))|exact HB.out)) hb);clear HI0;clear HK;clear HB;have HO265:=n0_;have HI0:=n1_;have HK:=n2_;have HB:=n3_;clear n0_ n1_ n2_ n3_;clear hb ho8;obtain ⟨Ao9,co9,eo9⟩:=Kd.R_slice HO265.out;subst eo9)|((with_reducible refine gate_callee (f:=31) rfl ?_);refine goesL_ (some 9) rfl rfl Try.func31 (by kernel_rfl) rfl #[.pointer (some ⟨g,0,none⟩),.slice Ao9 y263.length co9] rfl (by (try simp only [List.map_toArray,List.map_cons,List.map_nil]);first|done|rfl|(simp only [List.length_drop,List.length_take];rfl)) ?_;(with_reducible refine (spec_l1Cur_among.calls g s0_0 t261 t262 _ _ y263 t266 t267 t268 w0 _ ?side1 ?side2 ?side3 ?side4 ?side5 A4.out).mono ?_);(case side1=>repeat (first|(with_reducible first|exact HI0.out|apply IsS42.alloc|apply IsS42.drewN|apply IsS42.drew|apply IsS42.set_1|apply IsS42.set_2)|exact HI0.out));(case side2=>repeat (first|(with_reducible first|exact HB.out|apply zJ|apply zG|apply zH|refine zK ?_ (IsS42.ge HI0.out))|exact HB.out));(case side3=>repeat (first|exact (zM HO265.out).2.2|(with_reducible refine zQ ?_ _)|(with_reducible refine zR ?_ _)|(with_reducible refine zS ?_)));(case side4=>exact (zM HO265.out).2.1);(case side5=>exact far_slice (IsS42.own_ne HI0.out HO265.out (by decide)));rintro e w10 ⟨rfl,hi,hb,hk⟩;refine ⟨_,rfl,?_⟩;have n0_:=zI (Kd.R_mono (Kd.R_keep (IsS42.apart (show IsS42 w0 _ g s0_0 t261 t262 from by repeat (first|(with_reducible first|exact HI0.out|apply IsS42.alloc|apply IsS42.drewN|apply IsS42.drew|apply IsS42.set_1|apply IsS42.set_2)|exact HI0.out)) (by (with_reducible repeat (first|apply zN|apply zO|apply zP));exact HO265.out) (by decide)) hk (fun _ h=>h.2)) (fun _ h=>h.1));have n1_:=zI (KeepBut.trans (by repeat (first|(with_reducible first|exact HK.out|apply KeepBut.set_|apply keep_drewN|apply keep_drew|apply keep_alloc)|exact HK.out)) hk (.inl rfl));have n2_:=zI (hb);have n3_:=zI (hi);clear HO265;clear HK;clear HB;clear HI0;have HO265:=n0_;have HK:=n1_;have HB:=n2_;have HI0:=n3_;clear n0_ n1_ n2_ n3_;(try clear hb);(try clear hb2);(try clear hk);(try clear hi))|((with_reducible refine gate_dst (N:=11) rfl ?_);refine Kd.R_lit (Kd.int .i64) _ 3 ?hg (N:=11) ?hd (xs:=([0,1,2,200,201] : List Int)) (inner:=[.int .i64 0,.int .i64 1,.int .i64 2,.int .i64 200,.int .i64 201]) (ok:=fun _=>True) (okp:=fun _=>True) ?hr ?hp (fun _ hk=>hk) trivial (Below.refl _ _) (Nat.le_refl _) (by simp) ?_;(case hd=>rfl);(case hg=>rfl);(case hr=>first|(go_simp;done)|(go_simp;rfl));(case hp=>exact (Reps.one (show Kd.M (Kd.int .i64) _ _ _ 0 [.int .i64 0] from rfl) (Reps.one (show Kd.M (Kd.int .i64) _ _ _ 1 [.int .i64 1] from rfl) (Reps.one (show Kd.M (Kd.int .i64) _ _ _ 2 [.int .i64 2] from rfl) (Reps.one (show Kd.M (Kd.int .i64) _ _ _ 200 [.int .i64 200] from rfl) (Reps.one (show Kd.M (Kd.int .i64) _ _ _ 201 [.int .i64 201] from rfl) (Reps.none _ _)))))));intro v270 w11 ho12 hb hg_ hnew_;clear hg_ hnew_;(first|rw [← Ny269.out] at ho12|(simp only [Int.reduceToNat] at ho12;rw [← Ny269.out] at ho12));have n0_:=zI (Kd.R_elder' (by (with_reducible repeat (first|apply zN|apply zO|apply zP));exact HO265.out) (Kd.R_base ho12) hb);have n1_:=zI (Kd.R_lower (Kd.R_new' ho12 (Kd.R_lt (by (with_reducible repeat (first|apply zN|apply zO|apply zP));exact HO265.out))) (keep_size (w:=w) (g:=g) (row:=none) (by repeat (first|(with_reducible first|exact HK.out|apply KeepBut.set_|apply keep_drewN|apply keep_drew|apply keep_alloc)|exact HK.out))));have n2_:=zI (IsS42.below (by repeat (first|(with_reducible first|exact HI0.out|apply IsS42.alloc|apply IsS42.drewN|apply IsS42.drew|apply IsS42.set_1|apply IsS42.set_2)|exact HI0.out)) hb);have n3_:=zI (KeepBut.trans (by repeat (first|(with_reducible first|exact HK.out|apply KeepBut.set_|apply keep_drewN|apply keep_drew|apply keep_alloc)|exact HK.out)) (KeepBut.of_below hb g none) (.inl rfl));have n4_:=zI (below_step (by repeat (first|(with_reducible first|exact HB.out|apply zJ|apply zG|apply zH|refine zK ?_ (IsS42.ge HI0.out))|exact HB.out)) hb);clear HO265;clear HI0;clear HK;clear HB;have HO265:=n0_;have HO271:=n1_;have HI0:=n2_;have HK:=n3_;have HB:=n4_;clear n0_ n1_ n2_ n3_ n4_;clear hb ho12;obtain ⟨Ao13,co13,eo13⟩:=Kd.R_slice HO271.out;subst eo13)|((with_reducible refine gate_callee (f:=31) rfl ?_);refine goesL_ (some 12) rfl rfl Try.func31 (by kernel_rfl) rfl #[.pointer (some ⟨g,0,none⟩),.slice Ao13 y269.length co13] rfl (by (try simp only [List.map_toArray,List.map_cons,List.map_nil]);first|done|rfl|(simp only [List.length_drop,List.length_take];rfl)) ?_;(with_reducible refine (spec_l1Cur_among.calls g s0_0 t267 t268 _ _ y269 t272 t273 t274 w0 _ ?side1 ?side2 ?side3 ?side4 ?side5 A5.out).mono ?_);(case side1=>repeat (first|(with_reducible first|exact HI0.out|apply IsS42.alloc|apply IsS42.drewN|apply IsS42.drew|apply IsS42.set_1|apply IsS42.set_2)|exact HI0.out));(case side2=>repeat (first|(with_reducible first|exact HB.out|apply zJ|apply zG|apply zH|refine zK ?_ (IsS42.ge HI0.out))|exact HB.out));(case side3=>repeat (first|exact (zM HO271.out).2.2|(with_reducible refine zQ ?_ _)|(with_reducible refine zR ?_ _)|(with_reducible refine zS ?_)));(case side4=>exact (zM HO271.out).2.1);(case side5=>exact far_slice (IsS42.own_ne HI0.out HO271.out (by decide)));rintro e w14 ⟨rfl,hi,hb,hk⟩;refine ⟨_,rfl,?_⟩;have n0_:=zI (Kd.R_mono (Kd.R_keep (IsS42.apart (show IsS42 w0 _ g s0_0 t267 t268 from by repeat (first|(with_reducible first|exact HI0.out|apply IsS42.alloc|apply IsS42.drewN|apply IsS42.drew|apply IsS42.set_1|apply IsS42.set_2)|exact HI0.out)) (by (with_reducible repeat (first|apply zN|apply zO|apply zP));exact HO265.out) (by decide)) hk (fun _ h=>h.2)) (fun _ h=>h.1));have n1_:=zI (Kd.R_mono (Kd.R_keep (IsS42.apart (show IsS42 w0 _ g s0_0 t267 t268 from by repeat (first|(with_reducible first|exact HI0.out|apply IsS42.alloc|apply IsS42.drewN|apply IsS42.drew|apply IsS42.set_1|apply IsS42.set_2)|exact HI0.out)) (by (with_reducible repeat (first|apply zN|apply zO|apply zP));exact HO271.out) (by decide)) hk (fun _ h=>h.2)) (fun _ h=>h.1));have n2_:=zI (KeepBut.trans (by repeat (first|(with_reducible first|exact HK.out|apply KeepBut.set_|apply keep_drewN|apply keep_drew|apply keep_alloc)|exact HK.out)) hk (.inl rfl));have n3_:=zI (hb);have n4_:=zI (hi);clear HO265;clear HO271;clear HK;clear HB;clear HI0;have HO265:=n0_;have HO271:=n1_;have HK:=n2_;have HB:=n3_;have HI0:=n4_;clear n0_ n1_ n2_ n3_ n4_;(try clear hb);(try clear hb2);(try clear hk);(try clear hi)))
 go_ret2
 exact ⟨by first|rfl|(simp [errW_none,errW_some] <;> rfl)|(simp [*,errW_none,errW_some] <;> rfl),by repeat (first|(with_reducible first|exact HI0.out|apply IsS42.alloc|apply IsS42.drewN|apply IsS42.drew|apply IsS42.set_1|apply IsS42.set_2)|exact HI0.out),by repeat (first|(with_reducible first|exact HB.out|apply zJ|apply zG|apply zH|refine zK ?_ (IsS42.ge HI0.out))|exact HB.out),by repeat (first|(with_reducible first|exact HK.out|apply KeepBut.set_|apply keep_drewN|apply keep_drew|apply keep_alloc)|exact HK.out)⟩

/-! ### spec_DrawPartPlan: function 18 -/
def spec_DrawPartPlan.f (l0 : List Int) : Option (Int × Int × Int) := (spec_l1Cur_part.f l0 0 0).bind fun bt282 => ((spec_l1Cur_bookOf.f l0 bt282.2.2.1 bt282.2.2.2).bind fun bt286 => (some (bt286.1, bt282.1, bt282.2.1)))
set_option maxHeartbeats 8000000 in
set_option maxRecDepth 100000 in
theorem spec_DrawPartPlan.calls (A0 : Option Addr) (c0 : Nat) (l0 : List Int) (r1 : Int) (r2 : Int) (r3 : Int) (w : World) (hr0 : Kd.C (Kd.int .u8) w A0 l0.length l0) (hc0 : l0.length ≤ c0) (h : spec_DrawPartPlan.f l0 = some (r1, r2, r3)) :
    Calls Try.prog 18 #[.slice A0 l0.length c0] w fun e w' => e = .returned (.tuple #[.int .i64 r1, .int .i64 r2, .int .i64 r3]) ∧ Below w.heap.size w w' := by
 have hu42:=Try.underlying42;have HR0:=zI hr0;have HC0:=zI hc0;clear hr0 hc0
 have HB:=zI (Below.refl w.heap.size w)
 have H : ((spec_l1Cur_part.f l0 0 0).bind fun bt282=>((spec_l1Cur_bookOf.f l0 bt282.2.2.1 bt282.2.2.2).bind fun bt286=>(some (bt286.1,bt282.1,bt282.2.1)))) = some (r1,r2,r3):=h
 clear h;replace H:=Option.bind_eq_some_iff.mp H
 obtain ⟨⟨t282,t283,t284,t285⟩,A20,H⟩:=H
 replace H : ((spec_l1Cur_bookOf.f l0 t284 t285).bind fun bt286=>(some (bt286.1,t282,t283))) = some (r1,r2,r3):=H
 have A2:=zI A20;clear A20;replace H:=Option.bind_eq_some_iff.mp H
 obtain ⟨⟨t286,t287,t288⟩,A30,H⟩:=H
 replace H : (some (t286,t282,t283)) = some (r1,r2,r3):=H
 have A3:=zI A30;clear A30
 simp only [Option.some.injEq,Prod.mk.injEq] at H
 obtain ⟨rfl,rfl,rfl⟩:=H
 go_enter Try.func18,Try.ntmps18
 go_wp2_with (first|((with_reducible refine gate_dst (N:=10) rfl ?_);refine box_event ?hg (N:=10) ?hd (cs:=#[.slice A0 l0.length c0,.int .i64 0,.int .u64 0]) (t:=42) ?hr ?_;(case hd=>rfl);(case hg=>rfl);(case hr=>first|(go_simp;done)|(go_simp;rfl));intro gb281 hg w4 hbox hb;have n0_:=zI (below_step (by repeat (first|(with_reducible first|exact HB.out|apply zJ|apply zG|apply zH)|exact HB.out)) hb);have n1_:=zI ((⟨_,_,hbox,(by rw [hg];exact (below_size (by repeat (first|(with_reducible first|exact HB.out|apply zJ|apply zG|apply zH)|exact HB.out))) : w.heap.size ≤ gb281),HR0.out⟩ : IsS42 w w4 gb281 l0 0 0));clear HB;have HB:=n0_;have HI281:=n1_;clear n0_ n1_;clear hb hbox hg)|((with_reducible refine gate_callee (f:=41) rfl ?_);refine goesL_ (some 13) rfl rfl Try.func41 (by kernel_rfl) rfl #[.pointer (some ⟨gb281,0,none⟩)] rfl (by (try simp only [List.map_toArray,List.map_cons,List.map_nil]);first|done|rfl|(simp only [List.length_drop,List.length_take];rfl)) ?_;(with_reducible refine (spec_l1Cur_part.calls gb281 l0 0 0 t282 t283 t284 t285 w _ ?side1 ?side2 A2.out).mono ?_);(case side1=>repeat (first|(with_reducible first|exact HI281.out|apply IsS42.alloc|apply IsS42.drewN|apply IsS42.drew|apply IsS42.set_1|apply IsS42.set_2)|exact HI281.out));(case side2=>repeat (first|(with_reducible first|exact HB.out|apply zJ|apply zG|apply zH|refine zK ?_ (IsS42.ge HI281.out))|exact HB.out));rintro e w5 ⟨rfl,hi,hb,hk⟩;refine ⟨_,rfl,?_⟩;have n0_:=zI (hb);have n1_:=zI (hi);clear HB;clear HI281;have HB:=n0_;have HI281:=n1_;clear n0_ n1_;(try clear hb);(try clear hb2);(try clear hk);(try clear hi))|((with_reducible refine gate_callee (f:=30) rfl ?_);refine goesL_ (some 17) rfl rfl Try.func30 (by kernel_rfl) rfl #[.pointer (some ⟨gb281,0,none⟩)] rfl (by (try simp only [List.map_toArray,List.map_cons,List.map_nil]);first|done|rfl|(simp only [List.length_drop,List.length_take];rfl)) ?_;(with_reducible refine (spec_l1Cur_bookOf.calls gb281 l0 t284 t285 t286 t287 t288 w _ ?side1 ?side2 A3.out).mono ?_);(case side1=>repeat (first|(with_reducible first|exact HI281.out|apply IsS42.alloc|apply IsS42.drewN|apply IsS42.drew|apply IsS42.set_1|apply IsS42.set_2)|exact HI281.out));(case side2=>repeat (first|(with_reducible first|exact HB.out|apply zJ|apply zG|apply zH|refine zK ?_ (IsS42.ge HI281.out))|exact HB.out));rintro e w6 ⟨rfl,hi,hb,hk⟩;refine ⟨_,rfl,?_⟩;have n0_:=zI (hb);have n1_:=zI (hi);clear HB;clear HI281;have HB:=n0_;have HI281:=n1_;clear n0_ n1_;(try clear hb);(try clear hb2);(try clear hk);(try clear hi)))
 go_ret3
 exact ⟨by first|rfl|(simp [errW_none,errW_some] <;> rfl)|(simp [*,errW_none,errW_some] <;> rfl),by repeat (first|(with_reducible first|exact HB.out|apply zJ|apply zG|apply zH|refine zK ?_ (IsS42.ge HI281.out))|exact HB.out)⟩

/-! ### impl_isPart: function 42 -/
def impl_isPart.f (a0 : Int) (a1 : Int) : Option (Bool) := (impl_within.f a0 1 200).bind fun t289 => (if t289 = true then ((impl_within.f a1 (wrap64 (a0 + 1)) 200).bind fun t290 => (some t290)) else (some false))
set_option maxHeartbeats 8000000 in
set_option maxRecDepth 100000 in
theorem impl_isPart.calls (a0 : Int) (a1 : Int) (r : Bool) (w : World) (h : impl_isPart.f a0 a1 = some r) :
    Calls Try.prog 42 #[.int .i64 a0, .int .i64 a1] w fun e w' => e = .returned (.bool r) ∧ Drawn0 w w' := by
  have H : ((impl_within.f a0 1 200).bind fun t289 => (if t289 = true then ((impl_within.f a1 (wrap64 (a0 + 1)) 200).bind fun t290 => (some t290)) else (some false))) = some r := h
  clear h
  replace H := Option.bind_eq_some_iff.mp H
  obtain ⟨t289, A30, H⟩ := H
  replace H : (if t289 = true then ((impl_within.f a1 (wrap64 (a0 + 1)) 200).bind fun t290 => (some t290)) else (some false)) = some r := H
  have A3 := Aside0.mk A30
  clear A30
  by_cases c4 : t289 = true
  · subst c4
    have H1 : ((impl_within.f a1 (wrap64 (a0 + 1)) 200).bind fun t290 => (some t290)) = some r := by rw [if_pos rfl] at H; exact H
    clear H
    have H := H1
    clear H1
    replace H := Option.bind_eq_some_iff.mp H
    obtain ⟨t290, A50, H⟩ := H
    replace H : (some t290) = some r := H
    have A5 := Aside0.mk A50
    clear A50
    obtain rfl := Option.some.inj H
    go_enter Try.func42, Try.ntmps42
    go_wp2_with (first | ((with_reducible refine gate_callee (f := 33) rfl ?_); refine goesL_ (some 6) rfl rfl Try.func33 (by kernel_rfl) rfl #[.int .i64 a0, .int .i64 1, .int .i64 200] rfl (by (try simp only [List.map_toArray, List.map_cons, List.map_nil]); first | done | rfl | (simp only [List.length_drop, List.length_take]; rfl)) ?_; (with_reducible refine (impl_within.calls a0 1 200 true _ A3.out).mono ?_); rintro e w' ⟨rfl, ⟨nd, rfl⟩⟩; refine ⟨_, rfl, ?_⟩) | (go_at_call 33; (with_reducible refine (impl_within.calls a1 (wrap64 (a0 + 1)) 200 t290 _ A5.out).mono ?_); rintro e w' ⟨rfl, ⟨nd, rfl⟩⟩))
    go_ret
    exact ⟨by first | rfl | (simp; done) | (simp [*]; done), by repeat (first | exact Drawn0.refl _ | apply Drawn0.step)⟩
  · replace c4 := Bool.eq_false_iff.mpr c4
    subst c4
    have H1 : (some false) = some r := by rw [if_neg (show ¬ (false = true) by decide)] at H; exact H
    clear H
    have H := H1
    clear H1
    obtain rfl := Option.some.inj H
    go_enter Try.func42, Try.ntmps42
    go_wp2_with (first | ((with_reducible refine gate_callee (f := 33) rfl ?_); refine goesL_ (some 6) rfl rfl Try.func33 (by kernel_rfl) rfl #[.int .i64 a0, .int .i64 1, .int .i64 200] rfl (by (try simp only [List.map_toArray, List.map_cons, List.map_nil]); first | done | rfl | (simp only [List.length_drop, List.length_take]; rfl)) ?_; (with_reducible refine (impl_within.calls a0 1 200 false _ A3.out).mono ?_); rintro e w' ⟨rfl, ⟨nd, rfl⟩⟩; refine ⟨_, rfl, ?_⟩))
    go_ret
    exact ⟨by first | rfl | (simp; done) | (simp [*]; done), by repeat (first | exact Drawn0.refl _ | apply Drawn0.step)⟩

end Go.Proofs.Ytllakpmepfeinaa.XFnReadersPlan
