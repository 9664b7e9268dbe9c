-- Written by a program of this session: the machine side of the law FnReadersPlan, with contracts proved by hand for what the kit's print doesn't take. Lean checks it.
import Derived.Test.YtllakpmepfeinaaXFnReadersPlanx0
import Derived.Test.YtllakpmepfeinaaXFnReadersPlanx1
namespace Go.Proofs.Ytllakpmepfeinaa.XFnReadersPlan
open Go.RowKit Go.Proofs.YtllakpmepfeinaaW.PrintWords Go.Proofs.YtllakpmepfeinaaW.PrintLast Go.Proofs.YtllakpmepfeinaaW.PrintMore
attribute [local go_sem] max2_int min2_int max_two min_two max_three min_three max_four min_four   -- for this text's walks alone
set_option linter.unusedVariables false
set_option linter.unusedSimpArgs false

/-! ### spec_bpBook: function 36 -/
def spec_bpBook.f (a0 : Int) : Option (Bool) := (spec_l1In.f a0 1 2000).bind fun t182 => (some t182)
set_option maxHeartbeats 8000000 in
set_option maxRecDepth 100000 in
theorem spec_bpBook.calls (a0 : Int) (r : Bool) (w : World) (h : spec_bpBook.f a0 = some r) :
    Calls Try.prog 36 #[.int .i64 a0] w fun e w' => e = .returned (.bool r) ∧ Drawn0 w w' := by
  have H : ((spec_l1In.f a0 1 2000).bind fun t182 => (some t182)) = some r := h
  clear h
  replace H := Option.bind_eq_some_iff.mp H
  obtain ⟨t182, A20, H⟩ := H
  replace H : (some t182) = some r := H
  have A2 := Aside0.mk A20
  clear A20
  obtain rfl := Option.some.inj H
  go_enter Try.func36, Try.ntmps36
  go_wp2_with (first | ((with_reducible refine gate_callee (f := 37) rfl ?_); refine goesL_ (some 4) rfl rfl Try.func37 (by kernel_rfl) rfl #[.int .i64 a0, .int .i64 1, .int .i64 2000] rfl (by (try simp only [List.map_toArray, List.map_cons, List.map_nil]); first | done | rfl | (simp only [List.length_drop, List.length_take]; rfl)) ?_; (with_reducible refine (spec_l1In.calls a0 1 2000 t182 _ A2.out).mono ?_); rintro e w' ⟨rfl, ⟨nd, rfl⟩⟩; refine ⟨_, rfl, ?_⟩))
  go_ret
  exact ⟨by first | rfl | (simp; done) | (simp [*]; done), by repeat (first | exact Drawn0.refl _ | apply Drawn0.step)⟩

/-! ### spec_rdPlan: function 28 -/
def spec_rdPlan.f (a0 : Int) (a1 : Int) (a2 : Int) : Option (Bool) := (spec_bpBook.f a0).bind fun t183 => (if t183 = true then ((spec_l1In.f a1 0 a0).bind fun t184 => (if t184 = true then ((spec_l1In.f a2 1 3000).bind fun t185 => (some t185)) else (some false))) else (some false))
set_option maxHeartbeats 8000000 in
set_option maxRecDepth 100000 in
theorem spec_rdPlan.calls (a0 : Int) (a1 : Int) (a2 : Int) (r : Bool) (w : World) (h : spec_rdPlan.f a0 a1 a2 = some r) :
    Calls Try.prog 28 #[.int .i64 a0, .int .i64 a1, .int .i64 a2] w fun e w' => e = .returned (.bool r) ∧ Drawn0 w w' := by
 have H : ((spec_bpBook.f a0).bind fun t183=>(if t183 = true then ((spec_l1In.f a1 0 a0).bind fun t184=>(if t184 = true then ((spec_l1In.f a2 1 3000).bind fun t185=>(some t185)) else (some false))) else (some false))) = some r:=h
 clear h;replace H:=Option.bind_eq_some_iff.mp H
 obtain ⟨t183,A40,H⟩:=H
 replace H : (if t183 = true then ((spec_l1In.f a1 0 a0).bind fun t184=>(if t184 = true then ((spec_l1In.f a2 1 3000).bind fun t185=>(some t185)) else (some false))) else (some false)) = some r:=H
 have A4:=zI A40;clear A40
 by_cases c5 : t183 = true
 rotate_left
 · replace c5:=Bool.eq_false_iff.mpr c5
   subst c5
   have H1 : (some false) = some r:=by rw [if_neg (show ¬ (false = true) by decide)] at H;exact H
   clear H;have H:=H1;clear H1
   obtain rfl:=Option.some.inj H
   go_enter Try.func28,Try.ntmps28
   go_wp2_with (first|((with_reducible refine gate_callee (f:=36) rfl ?_);refine goesL_ (some 8) rfl rfl Try.func36 (by kernel_rfl) rfl #[.int .i64 a0] rfl (by (try simp only [List.map_toArray,List.map_cons,List.map_nil]);first|done|rfl|(simp only [List.length_drop,List.length_take];rfl)) ?_;(with_reducible refine (spec_bpBook.calls a0 false _ A4.out).mono ?_);rintro e w' ⟨rfl,⟨nd,rfl⟩⟩;refine ⟨_,rfl,?_⟩))
   go_ret
   exact ⟨by first|rfl|(simp;done)|(simp [*];done),by repeat (first|exact Drawn0.refl _|apply Drawn0.step)⟩
 subst c5
 have H1 : ((spec_l1In.f a1 0 a0).bind fun t184=>(if t184 = true then ((spec_l1In.f a2 1 3000).bind fun t185=>(some t185)) else (some false))) = some r:=by rw [if_pos rfl] at H;exact H
 clear H;have H:=H1;clear H1;replace H:=Option.bind_eq_some_iff.mp H
 obtain ⟨t184,A60,H⟩:=H
 replace H : (if t184 = true then ((spec_l1In.f a2 1 3000).bind fun t185=>(some t185)) else (some false)) = some r:=H
 have A6:=zI A60;clear A60
 by_cases c7 : t184 = true
 rotate_left
 · replace c7:=Bool.eq_false_iff.mpr c7
   subst c7
   have H1 : (some false) = some r:=by rw [if_neg (show ¬ (false = true) by decide)] at H;exact H
   clear H;have H:=H1;clear H1
   obtain rfl:=Option.some.inj H
   go_enter Try.func28,Try.ntmps28
   go_wp2_with (first|((with_reducible refine gate_callee (f:=36) rfl ?_);refine goesL_ (some 8) rfl rfl Try.func36 (by kernel_rfl) rfl #[.int .i64 a0] rfl (by (try simp only [List.map_toArray,List.map_cons,List.map_nil]);first|done|rfl|(simp only [List.length_drop,List.length_take];rfl)) ?_;(with_reducible refine (spec_bpBook.calls a0 true _ A4.out).mono ?_);rintro e w' ⟨rfl,⟨nd,rfl⟩⟩;refine ⟨_,rfl,?_⟩)|(go_at_call 37;(with_reducible refine (spec_l1In.calls a1 0 a0 false _ A6.out).mono ?_);rintro e w' ⟨rfl,⟨nd,rfl⟩⟩))
   go_ret
   exact ⟨by first|rfl|(simp;done)|(simp [*];done),by repeat (first|exact Drawn0.refl _|apply Drawn0.step)⟩
 subst c7
 have H1 : ((spec_l1In.f a2 1 3000).bind fun t185=>(some t185)) = some r:=by rw [if_pos rfl] at H;exact H
 clear H;have H:=H1;clear H1;replace H:=Option.bind_eq_some_iff.mp H
 obtain ⟨t185,A80,H⟩:=H
 replace H : (some t185) = some r:=H
 have A8:=zI A80;clear A80
 obtain rfl:=Option.some.inj H
 go_enter Try.func28,Try.ntmps28
 go_wp2_with (first|((with_reducible refine gate_callee (f:=36) rfl ?_);refine goesL_ (some 8) rfl rfl Try.func36 (by kernel_rfl) rfl #[.int .i64 a0] rfl (by (try simp only [List.map_toArray,List.map_cons,List.map_nil]);first|done|rfl|(simp only [List.length_drop,List.length_take];rfl)) ?_;(with_reducible refine (spec_bpBook.calls a0 true _ A4.out).mono ?_);rintro e w' ⟨rfl,⟨nd,rfl⟩⟩;refine ⟨_,rfl,?_⟩)|(go_at_call 37;(with_reducible refine (spec_l1In.calls a1 0 a0 true _ A6.out).mono ?_);rintro e w' ⟨rfl,⟨nd,rfl⟩⟩)|(go_at_call 37;(with_reducible refine (spec_l1In.calls a2 1 3000 t185 _ A8.out).mono ?_);rintro e w' ⟨rfl,⟨nd,rfl⟩⟩))
 go_ret
 exact ⟨by first|rfl|(simp;done)|(simp [*];done),by repeat (first|exact Drawn0.refl _|apply Drawn0.step)⟩

/-! ### spec_EvenPlan: function 7 -/
def spec_EvenPlan.l0 : Nat → Int → List Int → Int → Option (List Int × Bool)
  | 0, _, _, _ => none
  | k + 1, x2, x8, x9 => if x2 > 0 then (if x2 = 0 then (none) else (if x8.length < 17592186044416 then (spec_EvenPlan.l0 k (wrap64 (x2 - 1)) (x8 ++ [wrap64 (Int.tdiv (wrap64 ((wrap64 (x9 + x2)) - 1)) x2)]) (wrap64 (x9 - (wrap64 (Int.tdiv (wrap64 ((wrap64 (x9 + x2)) - 1)) x2))))) else (none))) else (some (x8, true))
def spec_EvenPlan.f (k : Nat) (a0 : Int) (a1 : Int) (a2 : Int) : Option (List Int × Bool) := (spec_rdPlan.f a0 a1 a2).bind fun t186 => (if t186 = true then (spec_EvenPlan.l0 k a2 ([] : List Int) (wrap64 (a0 - a1))) else (some (([] : List Int), false)))
theorem spec_EvenPlan.mono_l : ∀ k, (∀ y0 y1 y2, LeO (spec_EvenPlan.l0 k y0 y1 y2) (spec_EvenPlan.l0 (k + 1) y0 y1 y2))
  | 0 => fun _ _ _ r h => by simp [spec_EvenPlan.l0] at h
  | k + 1 => by
    have ih0 := spec_EvenPlan.mono_l k
    · intro y0 y1 y2
      unfold spec_EvenPlan.l0
      repeat' first
      | (with_reducible exact ih0 _ _ _)
      | (with_reducible exact LeO.refl _)
      | (with_reducible exact LeO.none _)
      | (with_reducible refine LeO.ite ?_ ?_)
      | (with_reducible refine LeO.bind ?_ (fun _ => ?_))
      | exact ih0 _ _ _
      | exact LeO.none _
      | refine LeO.ite ?_ ?_
      | refine LeO.bind ?_ (fun _ => ?_)
theorem spec_EvenPlan.mono : ∀ a0 a1 a2 k, LeO (spec_EvenPlan.f k a0 a1 a2) (spec_EvenPlan.f (k + 1) a0 a1 a2) := by
  intro a0 a1 a2 k
  have ih0 := spec_EvenPlan.mono_l k
  unfold spec_EvenPlan.f
  repeat' first
      | (with_reducible exact ih0 _ _ _)
      | (with_reducible exact LeO.refl _)
      | (with_reducible exact LeO.none _)
      | (with_reducible refine LeO.ite ?_ ?_)
      | (with_reducible refine LeO.bind ?_ (fun _ => ?_))
      | exact ih0 _ _ _
      | exact LeO.none _
      | refine LeO.ite ?_ ?_
      | refine LeO.bind ?_ (fun _ => ?_)
set_option maxHeartbeats 8000000 in
set_option maxRecDepth 100000 in
theorem spec_EvenPlan.calls (k : Nat) (a0 : Int) (a1 : Int) (a2 : Int) (r1 : List Int) (r2 : Bool) (w : World) (h : spec_EvenPlan.f k a0 a1 a2 = some (r1, r2)) :
    Calls Try.prog 7 #[.int .i64 a0, .int .i64 a1, .int .i64 a2] w fun e w' => ∃ v0_ : Value, e = .returned (.tuple #[v0_, .bool r2]) ∧ Kd.R (Kd.int .i64) 3 w' w.heap.size (fun _ => True) v0_ r1 ∧ Below w.heap.size w w' := by
 have HB:=zI (Below.refl w.heap.size w)
 have H : ((spec_rdPlan.f a0 a1 a2).bind fun t186=>(if t186 = true then (spec_EvenPlan.l0 k a2 ([] : List Int) (wrap64 (a0 - a1))) else (some (([] : List Int),false)))) = some (r1,r2):=h
 clear h;replace H:=Option.bind_eq_some_iff.mp H
 obtain ⟨t186,A40,H⟩:=H
 replace H : (if t186 = true then (spec_EvenPlan.l0 k a2 ([] : List Int) (wrap64 (a0 - a1))) else (some (([] : List Int),false))) = some (r1,r2):=H
 have A4:=zI A40;clear A40
 by_cases c5 : t186 = true
 rotate_left
 · replace c5:=Bool.eq_false_iff.mpr c5
   subst c5
   have H1 : (some (([] : List Int),false)) = some (r1,r2):=by rw [if_neg (show ¬ (false = true) by decide)] at H;exact H
   clear H;have H:=H1;clear H1
   simp only [Option.some.injEq,Prod.mk.injEq] at H
   obtain ⟨rfl,rfl⟩:=H
   go_enter Try.func7,Try.ntmps7
   go_wp2_with (first|((with_reducible refine gate_callee (f:=28) rfl ?_);refine goesL_ (some 14) rfl rfl Try.func28 (by kernel_rfl) rfl #[.int .i64 a0,.int .i64 a1,.int .i64 a2] rfl (by (try simp only [List.map_toArray,List.map_cons,List.map_nil]);first|done|rfl|(simp only [List.length_drop,List.length_take];rfl)) ?_;(with_reducible refine (spec_rdPlan.calls a0 a1 a2 false _ A4.out).mono ?_);rintro e w' ⟨rfl,⟨nd,rfl⟩⟩;refine ⟨_,rfl,?_⟩))
   go_ret2
   exact ⟨_,by first|rfl|(simp [errW_none,errW_some] <;> rfl)|(simp [*,errW_none,errW_some] <;> rfl),by first|exact Kd.R_nil _ _ _ _ _|exact Kd.N_nil _ _ _ _ _|exact Kd.V_nil _ _ _ _ _|exact Kd.Q_nil _ _ _ _ _|exact Kd.S_nil _ _ _ _ _,by repeat (first|(with_reducible first|exact HB.out|apply zJ|apply zG|apply zH)|exact HB.out)⟩
 subst c5
 have H1 : (spec_EvenPlan.l0 k a2 ([] : List Int) (wrap64 (a0 - a1))) = some (r1,r2):=by rw [if_pos rfl] at H;exact H
 clear H;have H:=H1;clear H1;have H':=zI H;clear H
 go_enter Try.func7,Try.ntmps7
 go_wp2_with (first|((with_reducible refine gate_callee (f:=28) rfl ?_);refine goesL_ (some 14) rfl rfl Try.func28 (by kernel_rfl) rfl #[.int .i64 a0,.int .i64 a1,.int .i64 a2] rfl (by (try simp only [List.map_toArray,List.map_cons,List.map_nil]);first|done|rfl|(simp only [List.length_drop,List.length_take];rfl)) ?_;(with_reducible refine (spec_rdPlan.calls a0 a1 a2 true _ A4.out).mono ?_);rintro e w' ⟨rfl,⟨nd,rfl⟩⟩;refine ⟨_,rfl,?_⟩))
 go_loopg [2,8,9] k (fun kq v2 v8 v9 w'=>∃ (x2_1 : Int) (x8_1 : List Int) (x9_1 : Int),v2 = .int .i64 x2_1 ∧ v9 = .int .i64 x9_1 ∧ Aside0 (spec_EvenPlan.l0 kq x2_1 x8_1 x9_1 = some (r1,r2)) ∧ Aside0 (kq ≤ k) ∧ Aside0 (Kd.R (Kd.int .i64) 3 w' w.heap.size (fun _=>True) v8 x8_1) ∧ Aside0 (Below w.heap.size w w'))
 case atStart=>exact ⟨(a2),(([] : List Int)),(wrap64 (a0 - a1)),(by first|rfl|(simp;done)|(simp [*];done)),(by first|rfl|(simp;done)|(simp [*];done)),H',⟨Nat.le_refl _⟩,⟨by first|exact Kd.R_nil _ _ _ _ _|exact Kd.N_nil _ _ _ _ _|exact Kd.V_nil _ _ _ _ _|exact Kd.Q_nil _ _ _ _ _|exact Kd.S_nil _ _ _ _ _⟩,⟨by repeat (first|(with_reducible first|exact HB.out|apply zJ|apply zG|apply zH)|exact HB.out)⟩⟩
 case round =>
  clear H'
  (try clear c2);(try clear p2);(try clear c5)
  obtain ⟨x2_1,x8_1,x9_1,rfl,rfl,HA,HK1,HO_8,HB⟩:=hrel
  cases gk with
  | zero=>exact absurd HA.out (by simp [spec_EvenPlan.l0])
  | succ k1 =>
   have H:=HA.out;clear HA
   simp only [spec_EvenPlan.l0] at H
   by_cases c6 : x2_1 > 0
   rotate_left
   · rw [if_neg c6] at H
     have c6b0 : decide (0 < x2_1) = false:=decide_eq_false c6
     clear c6
     simp only [Option.some.injEq,Prod.mk.injEq] at H
     obtain ⟨rfl,rfl⟩:=H
     go_wp2
     go_ret2
     exact ⟨_,by first|rfl|(simp [errW_none,errW_some] <;> rfl)|(simp [*,errW_none,errW_some] <;> rfl),by (with_reducible repeat (first|apply zN|apply zO|apply zP));exact HO_8.out,by repeat (first|(with_reducible first|exact HB.out|apply zJ|apply zG|apply zH)|exact HB.out)⟩
   rw [if_pos c6] at H
   have c6b0 : decide (0 < x2_1) = true:=decide_eq_true c6
   clear c6
   by_cases c7 : x2_1 = 0
   · rw [if_pos c7] at H
     exact absurd H (by simp)
   rw [if_neg c7] at H
   have c7b0 : (x2_1 == 0) = false:=beq_eq_false_iff_ne.mpr c7
   have c7b1 : (x2_1 != 0) = true:=bne_iff_ne.mpr c7
   by_cases c8 : x8_1.length < 17592186044416
   rotate_left
   · rw [if_neg c8] at H
     exact absurd H (by simp)
   rw [if_pos c8] at H
   have LMc8:=zI c8;clear c8
   obtain ⟨y187,hy187⟩ : ∃ y_ : List Int,y_ = (x8_1 ++ [wrap64 (Int.tdiv (wrap64 ((wrap64 (x9_1 + x2_1)) - 1)) x2_1)]):=⟨_,rfl⟩
   replace H : (spec_EvenPlan.l0 k1 (wrap64 (x2_1 - 1)) y187 (wrap64 (x9_1 - (wrap64 (Int.tdiv (wrap64 ((wrap64 (x9_1 + x2_1)) - 1)) x2_1))))) = some (r1,r2):=by first|(rw [hy187];with_reducible exact H)|(have H2_:=(Option.bind_some _ _).symm.trans H;rw [hy187];with_reducible exact H2_)|(have H2_:=(Option.bind_some _ _).symm.trans H;with_reducible exact H2_)|with_reducible exact H|(rw [hy187];exact H)|exact H
   have Ny187:=zI hy187;clear hy187;have H':=zI H;clear H
   go_wp2_with (first|((with_reducible refine gate_builtin (b:=.append) (xs:=#[.tmp 29,.tmp 31]) rfl ?_);at_builtin;refine Kd.R_append (Kd.int .i64) (w0:=w) w.heap.size rfl (.tmp 29) (.tmp 31) 26 3 (.int .i64 0) 8 rfl Try.underlying26 info3 rfl (by decide) (by omega) u8 x8_1 (wrap64 (Int.tdiv (wrap64 ((wrap64 (x9_1 + x2_1)) - 1)) x2_1)) [.int .i64 (wrap64 (Int.tdiv (wrap64 ((wrap64 (x9_1 + x2_1)) - 1)) x2_1))] (fun _=>True) (fun _=>False) rfl rfl ?aP (fun _ hk=>hk.elim) ?aF ?aO ?aB ?aS ?aL ?_;(case aP=>exact rfl);(case aB=>exact (by repeat (first|(with_reducible first|exact HB.out|apply zJ|apply zG|apply zH)|exact HB.out)));(case aF=>exact (fun _ _=>trivial));(case aO=>exact (by (with_reducible repeat (first|apply zN|apply zO|apply zP));exact HO_8.out));(case aS=>exact (below_size (by repeat (first|(with_reducible first|exact HB.out|apply zJ|apply zG|apply zH)|exact HB.out))));(case aL=>have:=LMc8.out;omega);intro v188 w9 ho hb hg hat;rw [← Ny187.out] at ho;have n0_:=zI (hb);have n1_:=zI (ho);clear HB;clear HO_8;have HB:=n0_;have HO189:=n1_;clear n0_ n1_;clear ho hb hg hat))
   go_roundg k1
   case measure=>have:=HK1.out;omega
   case rel=>exact ⟨(wrap64 (x2_1 - 1)),(y187),(wrap64 (x9_1 - (wrap64 (Int.tdiv (wrap64 ((wrap64 (x9_1 + x2_1)) - 1)) x2_1)))),(by first|rfl|(simp;done)|(simp [*];done)),(by first|rfl|(simp;done)|(simp [*];done)),H',⟨by have:=HK1.out;omega⟩,⟨by (with_reducible repeat (first|apply zN|apply zO|apply zP));exact HO189.out⟩,⟨by repeat (first|(with_reducible first|exact HB.out|apply zJ|apply zG|apply zH)|exact HB.out)⟩⟩

/-! ### impl_DailyFor: function 8 -/
def impl_DailyFor.f (a0 : Int) (a1 : Int) (a2 : Int) : Option (Int × Bool) := (impl_isMarked.f a0 a1 a2).bind fun t190 => (if t190 = true then (if a2 = 0 then (none) else (if (mx 1 (wrap64 (Int.tdiv (wrap64 ((wrap64 ((wrap64 (a0 - a1)) + a2)) - 1)) a2))) > 200 then (some (0, false)) else (some (mx 1 (wrap64 (Int.tdiv (wrap64 ((wrap64 ((wrap64 (a0 - a1)) + a2)) - 1)) a2)), true)))) else (some (0, false)))
set_option maxHeartbeats 8000000 in
set_option maxRecDepth 100000 in
theorem impl_DailyFor.calls (a0 : Int) (a1 : Int) (a2 : Int) (r1 : Int) (r2 : Bool) (w : World) (h : impl_DailyFor.f a0 a1 a2 = some (r1, r2)) :
    Calls Try.prog 8 #[.int .i64 a0, .int .i64 a1, .int .i64 a2] w fun e w' => e = .returned (.tuple #[.int .i64 r1, .bool r2]) ∧ Below w.heap.size w w' := by
 have HB:=zI (Below.refl w.heap.size w)
 have H : ((impl_isMarked.f a0 a1 a2).bind fun t190=>(if t190 = true then (if a2 = 0 then (none) else (if (mx 1 (wrap64 (Int.tdiv (wrap64 ((wrap64 ((wrap64 (a0 - a1)) + a2)) - 1)) a2))) > 200 then (some (0,false)) else (some (mx 1 (wrap64 (Int.tdiv (wrap64 ((wrap64 ((wrap64 (a0 - a1)) + a2)) - 1)) a2)),true)))) else (some (0,false)))) = some (r1,r2):=h
 clear h;replace H:=Option.bind_eq_some_iff.mp H
 obtain ⟨t190,A40,H⟩:=H
 replace H : (if t190 = true then (if a2 = 0 then (none) else (if (mx 1 (wrap64 (Int.tdiv (wrap64 ((wrap64 ((wrap64 (a0 - a1)) + a2)) - 1)) a2))) > 200 then (some (0,false)) else (some (mx 1 (wrap64 (Int.tdiv (wrap64 ((wrap64 ((wrap64 (a0 - a1)) + a2)) - 1)) a2)),true)))) else (some (0,false))) = some (r1,r2):=H
 have A4:=zI A40;clear A40
 by_cases c5 : t190 = true
 rotate_left
 · replace c5:=Bool.eq_false_iff.mpr c5
   subst c5
   have H1 : (some (0,false)) = some (r1,r2):=by rw [if_neg (show ¬ (false = true) by decide)] at H;exact H
   clear H;have H:=H1;clear H1
   simp only [Option.some.injEq,Prod.mk.injEq] at H
   obtain ⟨rfl,rfl⟩:=H
   go_enter Try.func8,Try.ntmps8
   go_wp2_with (first|((with_reducible refine gate_callee (f:=27) rfl ?_);refine goesL_ (some 12) rfl rfl Try.func27 (by kernel_rfl) rfl #[.int .i64 a0,.int .i64 a1,.int .i64 a2] rfl (by (try simp only [List.map_toArray,List.map_cons,List.map_nil]);first|done|rfl|(simp only [List.length_drop,List.length_take];rfl)) ?_;(with_reducible refine (impl_isMarked.calls a0 a1 a2 false _ A4.out).mono ?_);rintro e w' ⟨rfl,⟨nd,rfl⟩⟩;refine ⟨_,rfl,?_⟩))
   go_ret2
   exact ⟨by first|rfl|(simp [errW_none,errW_some] <;> rfl)|(simp [*,errW_none,errW_some] <;> rfl),by repeat (first|(with_reducible first|exact HB.out|apply zJ|apply zG|apply zH)|exact HB.out)⟩
 subst c5
 have H1 : (if a2 = 0 then (none) else (if (mx 1 (wrap64 (Int.tdiv (wrap64 ((wrap64 ((wrap64 (a0 - a1)) + a2)) - 1)) a2))) > 200 then (some (0,false)) else (some (mx 1 (wrap64 (Int.tdiv (wrap64 ((wrap64 ((wrap64 (a0 - a1)) + a2)) - 1)) a2)),true)))) = some (r1,r2):=by rw [if_pos rfl] at H;exact H
 clear H;have H:=H1;clear H1
 by_cases c6 : a2 = 0
 · rw [if_pos c6] at H
   exact absurd H (by simp)
 rw [if_neg c6] at H
 have c6b0 : (a2 == 0) = false:=beq_eq_false_iff_ne.mpr c6
 have c6b1 : (a2 != 0) = true:=bne_iff_ne.mpr c6
 obtain ⟨ji7,hji7⟩ : ∃ j_ : Int,(mx 1 (wrap64 (Int.tdiv (wrap64 ((wrap64 ((wrap64 (a0 - a1)) + a2)) - 1)) a2))) = j_:=⟨_,rfl⟩
 replace H : (if (ji7) > 200 then (some (0,false)) else (some (ji7,true))) = some (r1,r2):=by first|(rw [hji7] at H;exact H)|(simp only [hji7] at H ⊢;exact H)
 (try rw [hji7] at A4)
 (try (have hji7l : 1 ≤ ji7:=by (rw [← hji7];unfold mx;(repeat' split) <;> omega)))
 (try (have hji7m : 0 ≤ ji7:=by omega))
 have hji7_ : (if 1 < (wrap64 (Int.tdiv (wrap64 ((wrap64 ((wrap64 (a0 - a1)) + a2)) - 1)) a2)) then (wrap64 (Int.tdiv (wrap64 ((wrap64 ((wrap64 (a0 - a1)) + a2)) - 1)) a2)) else 1) = ji7:=hji7
 by_cases c8 : (ji7) > 200
 · rw [if_pos c8] at H
   have c8b0 : decide (200 < (ji7)) = true:=decide_eq_true c8
   clear c8
   simp only [Option.some.injEq,Prod.mk.injEq] at H
   obtain ⟨rfl,rfl⟩:=H
   go_enter Try.func8,Try.ntmps8
   go_wp2_with (first|((with_reducible refine gate_callee (f:=27) rfl ?_);refine goesL_ (some 12) rfl rfl Try.func27 (by kernel_rfl) rfl #[.int .i64 a0,.int .i64 a1,.int .i64 a2] rfl (by (try simp only [List.map_toArray,List.map_cons,List.map_nil]);first|done|rfl|(simp only [List.length_drop,List.length_take];rfl)) ?_;(with_reducible refine (impl_isMarked.calls a0 a1 a2 true _ A4.out).mono ?_);rintro e w' ⟨rfl,⟨nd,rfl⟩⟩;refine ⟨_,rfl,?_⟩))
   go_ret2
   exact ⟨by first|rfl|(simp [errW_none,errW_some] <;> rfl)|(simp only [← hji7];first|rfl|(simp [errW_none,errW_some] <;> rfl))|(simp [*,errW_none,errW_some] <;> rfl),by repeat (first|(with_reducible first|exact HB.out|apply zJ|apply zG|apply zH)|exact HB.out)⟩
 rw [if_neg c8] at H
 have c8b0 : decide (200 < (ji7)) = false:=decide_eq_false c8
 clear c8
 simp only [Option.some.injEq,Prod.mk.injEq] at H
 obtain ⟨rfl,rfl⟩:=H
 go_enter Try.func8,Try.ntmps8
 go_wp2_with (first|((with_reducible refine gate_callee (f:=27) rfl ?_);refine goesL_ (some 12) rfl rfl Try.func27 (by kernel_rfl) rfl #[.int .i64 a0,.int .i64 a1,.int .i64 a2] rfl (by (try simp only [List.map_toArray,List.map_cons,List.map_nil]);first|done|rfl|(simp only [List.length_drop,List.length_take];rfl)) ?_;(with_reducible refine (impl_isMarked.calls a0 a1 a2 true _ A4.out).mono ?_);rintro e w' ⟨rfl,⟨nd,rfl⟩⟩;refine ⟨_,rfl,?_⟩))
 go_ret2
 exact ⟨by first|rfl|(simp [errW_none,errW_some] <;> rfl)|(simp only [← hji7];first|rfl|(simp [errW_none,errW_some] <;> rfl))|(simp [*,errW_none,errW_some] <;> rfl),by repeat (first|(with_reducible first|exact HB.out|apply zJ|apply zG|apply zH)|exact HB.out)⟩

/-! ### spec_l1Most: function 29 -/
def spec_l1Most.f (a0 : Int) (a1 : Int) : Option (Int) := if a0 > a1 then (some a0) else (some a1)
set_option maxHeartbeats 8000000 in
set_option maxRecDepth 100000 in
theorem spec_l1Most.calls (a0 : Int) (a1 : Int) (r : Int) (w : World) (h : spec_l1Most.f a0 a1 = some r) :
    Calls Try.prog 29 #[.int .i64 a0, .int .i64 a1] w fun e w' => e = .returned (.int .i64 r) ∧ Drawn0 w w' := by
  have H : (if a0 > a1 then (some a0) else (some a1)) = some r := h
  clear h
  by_cases c3 : a0 > a1
  · rw [if_pos c3] at H
    have c3b0 : decide (a1 < a0) = true := decide_eq_true c3
    clear c3
    obtain rfl := Option.some.inj H
    go_enter Try.func29, Try.ntmps29
    go_wp2
    go_ret
    exact ⟨by first | rfl | (simp; done) | (simp [*]; done), by repeat (first | exact Drawn0.refl _ | apply Drawn0.step)⟩
  · rw [if_neg c3] at H
    have c3b0 : decide (a1 < a0) = false := decide_eq_false c3
    clear c3
    obtain rfl := Option.some.inj H
    go_enter Try.func29, Try.ntmps29
    go_wp2
    go_ret
    exact ⟨by first | rfl | (simp; done) | (simp [*]; done), by repeat (first | exact Drawn0.refl _ | apply Drawn0.step)⟩

/-! ### spec_DailyFor: function 9 -/
def spec_DailyFor.f (a0 : Int) (a1 : Int) (a2 : Int) : Option (Int × Bool) := (spec_rdPlan.f a0 a1 a2).bind fun t191 => (if t191 = true then (if a2 = 0 then (none) else ((spec_l1Most.f 1 (wrap64 (Int.tdiv (wrap64 ((wrap64 ((wrap64 (a0 - a1)) + a2)) - 1)) a2))).bind fun t192 => (if t192 > 200 then (some (0, false)) else (some (t192, true))))) else (some (0, false)))
set_option maxHeartbeats 8000000 in
set_option maxRecDepth 100000 in
theorem spec_DailyFor.calls (a0 : Int) (a1 : Int) (a2 : Int) (r1 : Int) (r2 : Bool) (w : World) (h : spec_DailyFor.f a0 a1 a2 = some (r1, r2)) :
    Calls Try.prog 9 #[.int .i64 a0, .int .i64 a1, .int .i64 a2] w fun e w' => e = .returned (.tuple #[.int .i64 r1, .bool r2]) ∧ Drawn0 w w' := by
 have H : ((spec_rdPlan.f a0 a1 a2).bind fun t191=>(if t191 = true then (if a2 = 0 then (none) else ((spec_l1Most.f 1 (wrap64 (Int.tdiv (wrap64 ((wrap64 ((wrap64 (a0 - a1)) + a2)) - 1)) a2))).bind fun t192=>(if t192 > 200 then (some (0,false)) else (some (t192,true))))) else (some (0,false)))) = some (r1,r2):=h
 clear h;replace H:=Option.bind_eq_some_iff.mp H
 obtain ⟨t191,A40,H⟩:=H
 replace H : (if t191 = true then (if a2 = 0 then (none) else ((spec_l1Most.f 1 (wrap64 (Int.tdiv (wrap64 ((wrap64 ((wrap64 (a0 - a1)) + a2)) - 1)) a2))).bind fun t192=>(if t192 > 200 then (some (0,false)) else (some (t192,true))))) else (some (0,false))) = some (r1,r2):=H
 have A4:=zI A40;clear A40
 by_cases c5 : t191 = true
 rotate_left
 · replace c5:=Bool.eq_false_iff.mpr c5
   subst c5
   have H1 : (some (0,false)) = some (r1,r2):=by rw [if_neg (show ¬ (false = true) by decide)] at H;exact H
   clear H;have H:=H1;clear H1
   simp only [Option.some.injEq,Prod.mk.injEq] at H
   obtain ⟨rfl,rfl⟩:=H
   go_enter Try.func9,Try.ntmps9
   go_wp2_with (first|((with_reducible refine gate_callee (f:=28) rfl ?_);refine goesL_ (some 12) rfl rfl Try.func28 (by kernel_rfl) rfl #[.int .i64 a0,.int .i64 a1,.int .i64 a2] rfl (by (try simp only [List.map_toArray,List.map_cons,List.map_nil]);first|done|rfl|(simp only [List.length_drop,List.length_take];rfl)) ?_;(with_reducible refine (spec_rdPlan.calls a0 a1 a2 false _ A4.out).mono ?_);rintro e w' ⟨rfl,⟨nd,rfl⟩⟩;refine ⟨_,rfl,?_⟩))
   go_ret2
   exact ⟨by first|rfl|(simp;done)|(simp [*];done),by repeat (first|exact Drawn0.refl _|apply Drawn0.step)⟩
 subst c5
 have H1 : (if a2 = 0 then (none) else ((spec_l1Most.f 1 (wrap64 (Int.tdiv (wrap64 ((wrap64 ((wrap64 (a0 - a1)) + a2)) - 1)) a2))).bind fun t192=>(if t192 > 200 then (some (0,false)) else (some (t192,true))))) = some (r1,r2):=by rw [if_pos rfl] at H;exact H
 clear H;have H:=H1;clear H1
 by_cases c6 : a2 = 0
 · rw [if_pos c6] at H
   exact absurd H (by simp)
 rw [if_neg c6] at H
 have c6b0 : (a2 == 0) = false:=beq_eq_false_iff_ne.mpr c6
 have c6b1 : (a2 != 0) = true:=bne_iff_ne.mpr c6
 replace H:=Option.bind_eq_some_iff.mp H
 obtain ⟨t192,A70,H⟩:=H
 replace H : (if t192 > 200 then (some (0,false)) else (some (t192,true))) = some (r1,r2):=H
 have A7:=zI A70;clear A70
 by_cases c8 : t192 > 200
 · rw [if_pos c8] at H
   have c8b0 : decide (200 < t192) = true:=decide_eq_true c8
   clear c8
   simp only [Option.some.injEq,Prod.mk.injEq] at H
   obtain ⟨rfl,rfl⟩:=H
   go_enter Try.func9,Try.ntmps9
   go_wp2_with (first|((with_reducible refine gate_callee (f:=28) rfl ?_);refine goesL_ (some 12) rfl rfl Try.func28 (by kernel_rfl) rfl #[.int .i64 a0,.int .i64 a1,.int .i64 a2] rfl (by (try simp only [List.map_toArray,List.map_cons,List.map_nil]);first|done|rfl|(simp only [List.length_drop,List.length_take];rfl)) ?_;(with_reducible refine (spec_rdPlan.calls a0 a1 a2 true _ A4.out).mono ?_);rintro e w' ⟨rfl,⟨nd,rfl⟩⟩;refine ⟨_,rfl,?_⟩)|((with_reducible refine gate_callee (f:=29) rfl ?_);refine goesL_ (some 22) rfl rfl Try.func29 (by kernel_rfl) rfl #[.int .i64 1,.int .i64 (wrap64 (Int.tdiv (wrap64 ((wrap64 ((wrap64 (a0 - a1)) + a2)) - 1)) a2))] rfl (by (try simp only [List.map_toArray,List.map_cons,List.map_nil]);first|done|rfl|(simp only [List.length_drop,List.length_take];rfl)) ?_;(with_reducible refine (spec_l1Most.calls 1 (wrap64 (Int.tdiv (wrap64 ((wrap64 ((wrap64 (a0 - a1)) + a2)) - 1)) a2)) t192 _ A7.out).mono ?_);rintro e w' ⟨rfl,⟨nd,rfl⟩⟩;refine ⟨_,rfl,?_⟩))
   go_ret2
   exact ⟨by first|rfl|(simp;done)|(simp [*];done),by repeat (first|exact Drawn0.refl _|apply Drawn0.step)⟩
 rw [if_neg c8] at H
 have c8b0 : decide (200 < t192) = false:=decide_eq_false c8
 clear c8
 simp only [Option.some.injEq,Prod.mk.injEq] at H
 obtain ⟨rfl,rfl⟩:=H
 go_enter Try.func9,Try.ntmps9
 go_wp2_with (first|((with_reducible refine gate_callee (f:=28) rfl ?_);refine goesL_ (some 12) rfl rfl Try.func28 (by kernel_rfl) rfl #[.int .i64 a0,.int .i64 a1,.int .i64 a2] rfl (by (try simp only [List.map_toArray,List.map_cons,List.map_nil]);first|done|rfl|(simp only [List.length_drop,List.length_take];rfl)) ?_;(with_reducible refine (spec_rdPlan.calls a0 a1 a2 true _ A4.out).mono ?_);rintro e w' ⟨rfl,⟨nd,rfl⟩⟩;refine ⟨_,rfl,?_⟩)|((with_reducible refine gate_callee (f:=29) rfl ?_);refine goesL_ (some 22) rfl rfl Try.func29 (by kernel_rfl) rfl #[.int .i64 1,.int .i64 (wrap64 (Int.tdiv (wrap64 ((wrap64 ((wrap64 (a0 - a1)) + a2)) - 1)) a2))] rfl (by (try simp only [List.map_toArray,List.map_cons,List.map_nil]);first|done|rfl|(simp only [List.length_drop,List.length_take];rfl)) ?_;(with_reducible refine (spec_l1Most.calls 1 (wrap64 (Int.tdiv (wrap64 ((wrap64 ((wrap64 (a0 - a1)) + a2)) - 1)) a2)) t192 _ A7.out).mono ?_);rintro e w' ⟨rfl,⟨nd,rfl⟩⟩;refine ⟨_,rfl,?_⟩))
 go_ret2
 exact ⟨by first|rfl|(simp;done)|(simp [*];done),by repeat (first|exact Drawn0.refl _|apply Drawn0.step)⟩

/-! ### laws_xSame: function 10 -/
def laws_xSame.l0 : Nat → List Int → List Int → Int → Int → Option (Bool)
  | 0, _, _, _, _ => none
  | k + 1, x0, x1, x12, x13 => if x13 < x12 then (if 0 ≤ x13 then (if x13 < (x0.length : Int) then (if x13 < (x1.length : Int) then (if (rd x0 x13) = (rd x1 x13) then (laws_xSame.l0 k x0 x1 x12 (wrap64 (x13 + 1))) else (some false)) else (none)) else (none)) else (none)) else (some true)
def laws_xSame.f (k : Nat) (l0 : List Int) (l1 : List Int) : Option (Bool) := if (l0.length : Int) = (l1.length : Int) then (laws_xSame.l0 k l0 l1 (l0.length : Int) 0) else (some false)
theorem laws_xSame.mono_l : ∀ k, (∀ y0 y1 y2 y3, LeO (laws_xSame.l0 k y0 y1 y2 y3) (laws_xSame.l0 (k + 1) y0 y1 y2 y3))
  | 0 => fun _ _ _ _ r h => by simp [laws_xSame.l0] at h
  | k + 1 => by
    have ih0 := laws_xSame.mono_l k
    · intro y0 y1 y2 y3
      unfold laws_xSame.l0
      repeat' first
      | (with_reducible exact ih0 _ _ _ _)
      | (with_reducible exact LeO.refl _)
      | (with_reducible exact LeO.none _)
      | (with_reducible refine LeO.ite ?_ ?_)
      | (with_reducible refine LeO.bind ?_ (fun _ => ?_))
      | exact ih0 _ _ _ _
      | exact LeO.none _
      | refine LeO.ite ?_ ?_
      | refine LeO.bind ?_ (fun _ => ?_)
theorem laws_xSame.mono : ∀ a0 a1 k, LeO (laws_xSame.f k a0 a1) (laws_xSame.f (k + 1) a0 a1) := by
  intro a0 a1 k
  have ih0 := laws_xSame.mono_l k
  unfold laws_xSame.f
  repeat' first
      | (with_reducible exact ih0 _ _ _ _)
      | (with_reducible exact LeO.refl _)
      | (with_reducible exact LeO.none _)
      | (with_reducible refine LeO.ite ?_ ?_)
      | (with_reducible refine LeO.bind ?_ (fun _ => ?_))
      | exact ih0 _ _ _ _
      | exact LeO.none _
      | refine LeO.ite ?_ ?_
      | refine LeO.bind ?_ (fun _ => ?_)
set_option maxHeartbeats 8000000 in
set_option maxRecDepth 100000 in
theorem laws_xSame.calls (k : Nat) (A0 : Option Addr) (c0 : Nat) (l0 : List Int) (A1 : Option Addr) (c1 : Nat) (l1 : List Int) (r : Bool) (w : World) (hr0 : Kd.C (Kd.int .i64) w A0 l0.length l0) (hc0 : l0.length ≤ c0) (hr1 : Kd.C (Kd.int .i64) w A1 l1.length l1) (hc1 : l1.length ≤ c1) (h : laws_xSame.f k l0 l1 = some r) :
    Calls Try.prog 10 #[.slice A0 l0.length c0, .slice A1 l1.length c1] w fun e w' => e = .returned (.bool r) ∧ Drawn0 w w' := by
 have HR0:=zI hr0;have HC0:=zI hc0;clear hr0 hc0;have HR1:=zI hr1;have HC1:=zI hc1;clear hr1 hc1
 have H : (if (l0.length : Int) = (l1.length : Int) then (laws_xSame.l0 k l0 l1 (l0.length : Int) 0) else (some false)) = some r:=h
 clear h
 by_cases c3 : (l0.length : Int) = (l1.length : Int)
 rotate_left
 · rw [if_neg c3] at H
   have c3b0 : ((l0.length : Int) == (l1.length : Int)) = false:=beq_eq_false_iff_ne.mpr c3
   have c3b1 : ((l0.length : Int) != (l1.length : Int)) = true:=bne_iff_ne.mpr c3
   have c3b2 : (l0.length == l1.length) = false:=by first|simpa using c3|(simp at c3 ⊢;omega)
   obtain rfl:=Option.some.inj H
   go_enter Try.func10,Try.ntmps10
   go_wp2
   repeat (go_quiet (fail);try go_wp2)
   go_ret
   exact ⟨by first|rfl|(simp;done)|(simp [*];done),by repeat (first|exact Drawn0.refl _|apply Drawn0.step)⟩
 rw [if_pos c3] at H
 have c3b0 : ((l0.length : Int) == (l1.length : Int)) = true:=beq_iff_eq.mpr c3
 have c3b1 : ((l0.length : Int) != (l1.length : Int)) = false:=bne_eq_false_iff_eq.mpr c3
 have c3b2 : (l0.length == l1.length) = true:=by first|simpa using c3|(simp at c3 ⊢;omega)
 clear c3;have H':=zI H;clear H
 go_enter Try.func10,Try.ntmps10
 go_wp2
 repeat (go_quiet (fail);try go_wp2)
 go_loopg [13] k (fun kq v13 w'=>∃ (x13_1 : Int),v13 = .int .i64 x13_1 ∧ Aside0 (laws_xSame.l0 kq l0 l1 (l0.length : Int) x13_1 = some r) ∧ Aside0 (kq ≤ k) ∧ Drawn0 w w')
 case atStart=>exact ⟨(0),(by first|rfl|(simp;done)|(simp [*];done)),H',⟨Nat.le_refl _⟩,by repeat (first|exact Drawn0.refl _|apply Drawn0.step)⟩
 case round =>
  clear H'
  (try clear c1);(try clear p2);(try clear c3);(try clear c3b0);(try clear c3b1);(try clear c3b2)
  obtain ⟨x13_1,rfl,HA,HK1,⟨m1,rfl⟩⟩:=hrel
  cases gk with
  | zero=>exact absurd HA.out (by simp [laws_xSame.l0])
  | succ k1 =>
   have H:=HA.out;clear HA
   simp only [laws_xSame.l0] at H
   by_cases c4 : x13_1 < (l0.length : Int)
   rotate_left
   · rw [if_neg c4] at H
     have c4b0 : decide (x13_1 < (l0.length : Int)) = false:=decide_eq_false c4
     clear c4
     obtain rfl:=Option.some.inj H
     go_wp2
     repeat (go_quiet (fail);try go_wp2)
     go_ret
     exact ⟨by first|rfl|(simp;done)|(simp [*];done),by repeat (first|exact Drawn0.refl _|apply Drawn0.step)⟩
   rw [if_pos c4] at H
   have c4b0 : decide (x13_1 < (l0.length : Int)) = true:=decide_eq_true c4
   clear c4
   by_cases c5 : 0 ≤ x13_1
   rotate_left
   · rw [if_neg c5] at H
     exact absurd H (by simp)
   rw [if_pos c5] at H
   have c5b0 : decide (0 ≤ x13_1) = true:=decide_eq_true c5
   clear c5
   by_cases c6 : x13_1 < (l0.length : Int)
   rotate_left
   · rw [if_neg c6] at H
     exact absurd H (by simp)
   rw [if_pos c6] at H
   have c6b0 : decide (x13_1 < (l0.length : Int)) = true:=decide_eq_true c6
   clear c6
   by_cases c7 : x13_1 < (l1.length : Int)
   rotate_left
   · rw [if_neg c7] at H
     exact absurd H (by simp)
   rw [if_pos c7] at H
   have c7b0 : decide (x13_1 < (l1.length : Int)) = true:=decide_eq_true c7
   clear c7
   by_cases c8 : (rd l0 x13_1) = (rd l1 x13_1)
   rotate_left
   · rw [if_neg c8] at H
     have c8b0 : ((rd l0 x13_1) == (rd l1 x13_1)) = false:=beq_eq_false_iff_ne.mpr c8
     have c8b1 : ((rd l0 x13_1) != (rd l1 x13_1)) = true:=bne_iff_ne.mpr c8
     obtain rfl:=Option.some.inj H
     have p193 : 0 ≤ (x13_1 : Int):=of_decide_eq_true (by first|(with_reducible assumption)|assumption)
     have q193 : x13_1 < (l0.length : Int):=of_decide_eq_true (by first|(with_reducible assumption)|assumption)
     obtain ⟨ad193,e193,hx193_0⟩:=Kd.at_int HR0.out x13_1 p193 q193
     cases e193
     replace p193:=eq_true p193
     replace q193:=eq_true q193
     have p194 : 0 ≤ (x13_1 : Int):=of_decide_eq_true (by first|(with_reducible assumption)|assumption)
     have q194 : x13_1 < (l1.length : Int):=of_decide_eq_true (by first|(with_reducible assumption)|assumption)
     obtain ⟨ad194,e194,hx194_0⟩:=Kd.at_int HR1.out x13_1 p194 q194
     cases e194
     replace p194:=eq_true p194
     replace q194:=eq_true q194
     go_wp2
     repeat (go_quiet (fail);try go_wp2)
     go_ret
     exact ⟨by first|rfl|(simp;done)|(simp [*];done),by repeat (first|exact Drawn0.refl _|apply Drawn0.step)⟩
   rw [if_pos c8] at H
   have c8b0 : ((rd l0 x13_1) == (rd l1 x13_1)) = true:=beq_iff_eq.mpr c8
   have c8b1 : ((rd l0 x13_1) != (rd l1 x13_1)) = false:=bne_eq_false_iff_eq.mpr c8
   clear c8;have H':=zI H;clear H
   have p193 : 0 ≤ (x13_1 : Int):=of_decide_eq_true (by first|(with_reducible assumption)|assumption)
   have q193 : x13_1 < (l0.length : Int):=of_decide_eq_true (by first|(with_reducible assumption)|assumption)
   obtain ⟨ad193,e193,hx193_0⟩:=Kd.at_int HR0.out x13_1 p193 q193
   cases e193
   replace p193:=eq_true p193
   replace q193:=eq_true q193
   have p194 : 0 ≤ (x13_1 : Int):=of_decide_eq_true (by first|(with_reducible assumption)|assumption)
   have q194 : x13_1 < (l1.length : Int):=of_decide_eq_true (by first|(with_reducible assumption)|assumption)
   obtain ⟨ad194,e194,hx194_0⟩:=Kd.at_int HR1.out x13_1 p194 q194
   cases e194
   replace p194:=eq_true p194
   replace q194:=eq_true q194
   go_wp2
   repeat (go_quiet (fail);try go_wp2)
   go_roundg k1
   case measure=>have:=HK1.out;omega
   case rel=>exact ⟨(wrap64 (x13_1 + 1)),(by first|rfl|(simp;done)|(simp [*];done)),H',⟨by have:=HK1.out;omega⟩,by repeat (first|exact Drawn0.refl _|apply Drawn0.step)⟩

/-! ### laws_xSum: function 11 -/
def laws_xSum.l0 : Nat → Int → List Int → Int → Int → Option (Int)
  | 0, _, _, _, _ => none
  | k + 1, x3, x6, x7, x8 => if x8 < x7 then (if 0 ≤ x8 then (if x8 < (x6.length : Int) then (laws_xSum.l0 k (wrap64 (x3 + (rd x6 x8))) x6 x7 (wrap64 (x8 + 1))) else (none)) else (none)) else (some x3)
def laws_xSum.f (k : Nat) (l0 : List Int) : Option (Int) := laws_xSum.l0 k 0 l0 (l0.length : Int) 0
theorem laws_xSum.mono_l : ∀ k, (∀ y0 y1 y2 y3, LeO (laws_xSum.l0 k y0 y1 y2 y3) (laws_xSum.l0 (k + 1) y0 y1 y2 y3))
  | 0 => fun _ _ _ _ r h => by simp [laws_xSum.l0] at h
  | k + 1 => by
    have ih0 := laws_xSum.mono_l k
    · intro y0 y1 y2 y3
      unfold laws_xSum.l0
      repeat' first
      | (with_reducible exact ih0 _ _ _ _)
      | (with_reducible exact LeO.refl _)
      | (with_reducible exact LeO.none _)
      | (with_reducible refine LeO.ite ?_ ?_)
      | (with_reducible refine LeO.bind ?_ (fun _ => ?_))
      | exact ih0 _ _ _ _
      | exact LeO.none _
      | refine LeO.ite ?_ ?_
      | refine LeO.bind ?_ (fun _ => ?_)
theorem laws_xSum.mono : ∀ a0 k, LeO (laws_xSum.f k a0) (laws_xSum.f (k + 1) a0) := by
  intro a0 k
  have ih0 := laws_xSum.mono_l k
  unfold laws_xSum.f
  repeat' first
      | (with_reducible exact ih0 _ _ _ _)
      | (with_reducible exact LeO.refl _)
      | (with_reducible exact LeO.none _)
      | (with_reducible refine LeO.ite ?_ ?_)
      | (with_reducible refine LeO.bind ?_ (fun _ => ?_))
      | exact ih0 _ _ _ _
      | exact LeO.none _
      | refine LeO.ite ?_ ?_
      | refine LeO.bind ?_ (fun _ => ?_)
set_option maxHeartbeats 8000000 in
set_option maxRecDepth 100000 in
theorem laws_xSum.calls (k : Nat) (A0 : Option Addr) (c0 : Nat) (l0 : List Int) (r : Int) (w : World) (hr0 : Kd.C (Kd.int .i64) w A0 l0.length l0) (hc0 : l0.length ≤ c0) (h : laws_xSum.f k l0 = some r) :
    Calls Try.prog 11 #[.slice A0 l0.length c0] w fun e w' => e = .returned (.int .i64 r) ∧ Drawn0 w w' := by
  have HR0 := Aside0.mk hr0
  have HC0 := Aside0.mk hc0
  clear hr0 hc0
  have H : (laws_xSum.l0 k 0 l0 (l0.length : Int) 0) = some r := h
  clear h
  have H' := Aside0.mk H
  clear H
  go_enter Try.func11, Try.ntmps11
  go_wp2
  go_loopg [3, 8] k (fun kq v3 v8 w' => ∃ (x3_1 : Int) (x8_1 : Int), v3 = .int .i64 x3_1 ∧ v8 = .int .i64 x8_1 ∧ Aside0 (laws_xSum.l0 kq x3_1 l0 (l0.length : Int) x8_1 = some r) ∧ Aside0 (kq ≤ k) ∧ Drawn0 w w')
  case atStart => exact ⟨(0), (0), (by first | rfl | (simp; done) | (simp [*]; done)), (by first | rfl | (simp; done) | (simp [*]; done)), H', ⟨Nat.le_refl _⟩, by repeat (first | exact Drawn0.refl _ | apply Drawn0.step)⟩
  case round =>
    clear H'
    try clear c1
    obtain ⟨x3_1, x8_1, rfl, rfl, HA, HK1, ⟨m1, rfl⟩⟩ := hrel
    cases gk with
    | zero => exact absurd HA.out (by simp [laws_xSum.l0])
    | succ k1 =>
      have H := HA.out
      clear HA
      simp only [laws_xSum.l0] at H
      by_cases c2 : x8_1 < (l0.length : Int)
      · rw [if_pos c2] at H
        have c2b0 : decide (x8_1 < (l0.length : Int)) = true := decide_eq_true c2
        clear c2
        by_cases c3 : 0 ≤ x8_1
        · rw [if_pos c3] at H
          have c3b0 : decide (0 ≤ x8_1) = true := decide_eq_true c3
          clear c3
          by_cases c4 : x8_1 < (l0.length : Int)
          · rw [if_pos c4] at H
            have c4b0 : decide (x8_1 < (l0.length : Int)) = true := decide_eq_true c4
            clear c4
            have H' := Aside0.mk H
            clear H
            have p195 : 0 ≤ (x8_1 : Int) := of_decide_eq_true (by first | (with_reducible assumption) | assumption)
            have q195 : x8_1 < (l0.length : Int) := of_decide_eq_true (by first | (with_reducible assumption) | assumption)
            obtain ⟨ad195, e195, hx195_0⟩ := Kd.at_int HR0.out x8_1 p195 q195
            cases e195
            replace p195 := eq_true p195
            replace q195 := eq_true q195
            go_wp2
            go_roundg k1
            case measure => have := HK1.out; omega
            case rel => exact ⟨(wrap64 (x3_1 + (rd l0 x8_1))), (wrap64 (x8_1 + 1)), (by first | rfl | (simp; done) | (simp [*]; done)), (by first | rfl | (simp; done) | (simp [*]; done)), H', ⟨by have := HK1.out; omega⟩, by repeat (first | exact Drawn0.refl _ | apply Drawn0.step)⟩
          · rw [if_neg c4] at H
            exact absurd H (by simp)
        · rw [if_neg c3] at H
          exact absurd H (by simp)
      · rw [if_neg c2] at H
        have c2b0 : decide (x8_1 < (l0.length : Int)) = false := decide_eq_false c2
        clear c2
        obtain rfl := Option.some.inj H
        go_wp2
        go_ret
        exact ⟨by first | rfl | (simp; done) | (simp [*]; done), by repeat (first | exact Drawn0.refl _ | apply Drawn0.step)⟩

/-! ### spec_DrawRisingPlan: function 12 -/
def spec_DrawRisingPlan.f (l0 : List Int) : Option (Int × Int × Int) := (spec_l1Cur_bookOf.f l0 0 0).bind fun bt197 => ((spec_l1Cur_among.f l0 bt197.2.1 bt197.2.2 (([1, 2, 5, 10, 20, 200, 201, 0] : List Int))).bind fun bt203 => ((spec_l1Cur_among.f l0 bt203.2.1 bt203.2.2 (([0, 1, 2, 5, 200, 201, (-1)] : List Int))).bind fun bt209 => (some (bt197.1, bt203.1, bt209.1))))
set_option maxHeartbeats 8000000 in
set_option maxRecDepth 100000 in
theorem spec_DrawRisingPlan.calls (A0 : Option Addr) (c0 : Nat) (l0 : List Int) (r1 : Int) (r2 : Int) (r3 : Int) (w : World) (hr0 : Kd.C (Kd.int .u8) w A0 l0.length l0) (hc0 : l0.length ≤ c0) (h : spec_DrawRisingPlan.f l0 = some (r1, r2, r3)) :
    Calls Try.prog 12 #[.slice A0 l0.length c0] w fun e w' => e = .returned (.tuple #[.int .i64 r1, .int .i64 r2, .int .i64 r3]) ∧ Below w.heap.size w w' := by
 have hu42:=Try.underlying42;have HR0:=zI hr0;have HC0:=zI hc0;clear hr0 hc0
 have HB:=zI (Below.refl w.heap.size w)
 have H : ((spec_l1Cur_bookOf.f l0 0 0).bind fun bt197=>((spec_l1Cur_among.f l0 bt197.2.1 bt197.2.2 (([1,2,5,10,20,200,201,0] : List Int))).bind fun bt203=>((spec_l1Cur_among.f l0 bt203.2.1 bt203.2.2 (([0,1,2,5,200,201,(-1)] : List Int))).bind fun bt209=>(some (bt197.1,bt203.1,bt209.1))))) = some (r1,r2,r3):=h
 clear h;replace H:=Option.bind_eq_some_iff.mp H
 obtain ⟨⟨t197,t198,t199⟩,A20,H⟩:=H
 replace H : ((spec_l1Cur_among.f l0 t198 t199 (([1,2,5,10,20,200,201,0] : List Int))).bind fun bt203=>((spec_l1Cur_among.f l0 bt203.2.1 bt203.2.2 (([0,1,2,5,200,201,(-1)] : List Int))).bind fun bt209=>(some (t197,bt203.1,bt209.1)))) = some (r1,r2,r3):=H
 have A2:=zI A20;clear A20
 obtain ⟨y200,hy200⟩ : ∃ y_ : List Int,y_ = (([1,2,5,10,20,200,201,0] : List Int)):=⟨_,rfl⟩
 replace H : ((spec_l1Cur_among.f l0 t198 t199 y200).bind fun bt203=>((spec_l1Cur_among.f l0 bt203.2.1 bt203.2.2 (([0,1,2,5,200,201,(-1)] : List Int))).bind fun bt209=>(some (t197,bt203.1,bt209.1)))) = some (r1,r2,r3):=by first|(rw [hy200];with_reducible exact H)|(have H2_:=(Option.bind_some _ _).symm.trans H;rw [hy200];with_reducible exact H2_)|(have H2_:=(Option.bind_some _ _).symm.trans H;with_reducible exact H2_)|with_reducible exact H|(rw [hy200];exact H)|exact H
 have Ny200:=zI hy200;clear hy200;replace H:=Option.bind_eq_some_iff.mp H
 obtain ⟨⟨t203,t204,t205⟩,A30,H⟩:=H
 replace H : ((spec_l1Cur_among.f l0 t204 t205 (([0,1,2,5,200,201,(-1)] : List Int))).bind fun bt209=>(some (t197,t203,bt209.1))) = some (r1,r2,r3):=H
 have A3:=zI A30;clear A30
 obtain ⟨y206,hy206⟩ : ∃ y_ : List Int,y_ = (([0,1,2,5,200,201,(-1)] : List Int)):=⟨_,rfl⟩
 replace H : ((spec_l1Cur_among.f l0 t204 t205 y206).bind fun bt209=>(some (t197,t203,bt209.1))) = some (r1,r2,r3):=by first|(rw [hy206];with_reducible exact H)|(have H2_:=(Option.bind_some _ _).symm.trans H;rw [hy206];with_reducible exact H2_)|(have H2_:=(Option.bind_some _ _).symm.trans H;with_reducible exact H2_)|with_reducible exact H|(rw [hy206];exact H)|exact H
 have Ny206:=zI hy206;clear hy206;replace H:=Option.bind_eq_some_iff.mp H
 obtain ⟨⟨t209,t210,t211⟩,A40,H⟩:=H
 replace H : (some (t197,t203,t209)) = some (r1,r2,r3):=H
 have A4:=zI A40;clear A40
 simp only [Option.some.injEq,Prod.mk.injEq] at H
 obtain ⟨rfl,rfl,rfl⟩:=H
 go_enter Try.func12,Try.ntmps12
 go_wp2_with (first|((with_reducible refine gate_dst (N:=8) rfl ?_);refine box_event ?hg (N:=8) ?hd (cs:=#[.slice A0 l0.length c0,.int .i64 0,.int .u64 0]) (t:=42) ?hr ?_;(case hd=>rfl);(case hg=>rfl);(case hr=>first|(go_simp;done)|(go_simp;rfl));intro gb196 hg w5 hbox hb;have n0_:=zI (below_step (by repeat (first|(with_reducible first|exact HB.out|apply zJ|apply zG|apply zH)|exact HB.out)) hb);have n1_:=zI ((⟨_,_,hbox,(by rw [hg];exact (below_size (by repeat (first|(with_reducible first|exact HB.out|apply zJ|apply zG|apply zH)|exact HB.out))) : w.heap.size ≤ gb196),HR0.out⟩ : IsS42 w w5 gb196 l0 0 0));clear HB;have HB:=n0_;have HI196:=n1_;clear n0_ n1_;clear hb hbox hg)|((with_reducible refine gate_callee (f:=30) rfl ?_);refine goesL_ (some 10) rfl rfl Try.func30 (by kernel_rfl) rfl #[.pointer (some ⟨gb196,0,none⟩)] rfl (by (try simp only [List.map_toArray,List.map_cons,List.map_nil]);first|done|rfl|(simp only [List.length_drop,List.length_take];rfl)) ?_;(with_reducible refine (spec_l1Cur_bookOf.calls gb196 l0 0 0 t197 t198 t199 w _ ?side1 ?side2 A2.out).mono ?_);(case side1=>repeat (first|(with_reducible first|exact HI196.out|apply IsS42.alloc|apply IsS42.drewN|apply IsS42.drew|apply IsS42.set_1|apply IsS42.set_2)|exact HI196.out));(case side2=>repeat (first|(with_reducible first|exact HB.out|apply zJ|apply zG|apply zH|refine zK ?_ (IsS42.ge HI196.out))|exact HB.out));rintro e w6 ⟨rfl,hi,hb,hk⟩;refine ⟨_,rfl,?_⟩;have n0_:=zI (hb);have n1_:=zI (hi);clear HB;clear HI196;have HB:=n0_;have HI196:=n1_;clear n0_ n1_;(try clear hb);(try clear hb2);(try clear hk);(try clear hi))|((with_reducible refine gate_dst (N:=12) rfl ?_);refine Kd.R_lit (Kd.int .i64) _ 3 ?hg (N:=12) ?hd (xs:=([1,2,5,10,20,200,201,0] : List Int)) (inner:=[.int .i64 1,.int .i64 2,.int .i64 5,.int .i64 10,.int .i64 20,.int .i64 200,.int .i64 201,.int .i64 0]) (ok:=fun _=>True) (okp:=fun _=>True) ?hr ?hp (fun _ hk=>hk) trivial (Below.refl _ _) (Nat.le_refl _) (by simp) ?_;(case hd=>rfl);(case hg=>rfl);(case hr=>first|(go_simp;done)|(go_simp;rfl));(case hp=>exact (Reps.one (show Kd.M (Kd.int .i64) _ _ _ 1 [.int .i64 1] from rfl) (Reps.one (show Kd.M (Kd.int .i64) _ _ _ 2 [.int .i64 2] from rfl) (Reps.one (show Kd.M (Kd.int .i64) _ _ _ 5 [.int .i64 5] from rfl) (Reps.one (show Kd.M (Kd.int .i64) _ _ _ 10 [.int .i64 10] from rfl) (Reps.one (show Kd.M (Kd.int .i64) _ _ _ 20 [.int .i64 20] from rfl) (Reps.one (show Kd.M (Kd.int .i64) _ _ _ 200 [.int .i64 200] from rfl) (Reps.one (show Kd.M (Kd.int .i64) _ _ _ 201 [.int .i64 201] from rfl) (Reps.one (show Kd.M (Kd.int .i64) _ _ _ 0 [.int .i64 0] from rfl) (Reps.none _ _))))))))));intro v201 w7 ho8 hb hg_ hnew_;clear hg_ hnew_;(first|rw [← Ny200.out] at ho8|(simp only [Int.reduceToNat] at ho8;rw [← Ny200.out] at ho8));have n0_:=zI (Kd.R_lower ho8 (below_size (by repeat (first|(with_reducible first|exact HB.out|apply zJ|apply zG|apply zH|refine zK ?_ (IsS42.ge HI196.out))|exact HB.out))));have n1_:=zI (IsS42.below (by repeat (first|(with_reducible first|exact HI196.out|apply IsS42.alloc|apply IsS42.drewN|apply IsS42.drew|apply IsS42.set_1|apply IsS42.set_2)|exact HI196.out)) hb);have n2_:=zI (below_step (by repeat (first|(with_reducible first|exact HB.out|apply zJ|apply zG|apply zH|refine zK ?_ (IsS42.ge HI196.out))|exact HB.out)) hb);clear HI196;clear HB;have HO202:=n0_;have HI196:=n1_;have HB:=n2_;clear n0_ n1_ n2_;clear hb ho8;obtain ⟨Ao9,co9,eo9⟩:=Kd.R_slice HO202.out;subst eo9)|((with_reducible refine gate_callee (f:=31) rfl ?_);refine goesL_ (some 13) rfl rfl Try.func31 (by kernel_rfl) rfl #[.pointer (some ⟨gb196,0,none⟩),.slice Ao9 y200.length co9] rfl (by (try simp only [List.map_toArray,List.map_cons,List.map_nil]);first|done|rfl|(simp only [List.length_drop,List.length_take];rfl)) ?_;(with_reducible refine (spec_l1Cur_among.calls gb196 l0 t198 t199 _ _ y200 t203 t204 t205 w _ ?side1 ?side2 ?side3 ?side4 ?side5 A3.out).mono ?_);(case side1=>repeat (first|(with_reducible first|exact HI196.out|apply IsS42.alloc|apply IsS42.drewN|apply IsS42.drew|apply IsS42.set_1|apply IsS42.set_2)|exact HI196.out));(case side2=>repeat (first|(with_reducible first|exact HB.out|apply zJ|apply zG|apply zH|refine zK ?_ (IsS42.ge HI196.out))|exact HB.out));(case side3=>repeat (first|exact (zM HO202.out).2.2|(with_reducible refine zQ ?_ _)|(with_reducible refine zR ?_ _)|(with_reducible refine zS ?_)));(case side4=>exact (zM HO202.out).2.1);(case side5=>exact far_slice (IsS42.own_ne HI196.out HO202.out (by decide)));rintro e w10 ⟨rfl,hi,hb,hk⟩;refine ⟨_,rfl,?_⟩;have n0_:=zI (Kd.R_mono (Kd.R_keep (IsS42.apart (show IsS42 w _ gb196 l0 t198 t199 from by repeat (first|(with_reducible first|exact HI196.out|apply IsS42.alloc|apply IsS42.drewN|apply IsS42.drew|apply IsS42.set_1|apply IsS42.set_2)|exact HI196.out)) (by (with_reducible repeat (first|apply zN|apply zO|apply zP));exact HO202.out) (by decide)) hk (fun _ h=>h.2)) (fun _ h=>h.1));have n1_:=zI (hb);have n2_:=zI (hi);clear HO202;clear HB;clear HI196;have HO202:=n0_;have HB:=n1_;have HI196:=n2_;clear n0_ n1_ n2_;(try clear hb);(try clear hb2);(try clear hk);(try clear hi))|((with_reducible refine gate_dst (N:=15) rfl ?_);refine Kd.R_lit (Kd.int .i64) _ 3 ?hg (N:=15) ?hd (xs:=([0,1,2,5,200,201,(-1)] : List Int)) (inner:=[.int .i64 0,.int .i64 1,.int .i64 2,.int .i64 5,.int .i64 200,.int .i64 201,.int .i64 (-1)]) (ok:=fun _=>True) (okp:=fun _=>True) ?hr ?hp (fun _ hk=>hk) trivial (Below.refl _ _) (Nat.le_refl _) (by simp) ?_;(case hd=>rfl);(case hg=>rfl);(case hr=>first|(go_simp;done)|(go_simp;rfl));(case hp=>exact (Reps.one (show Kd.M (Kd.int .i64) _ _ _ 0 [.int .i64 0] from rfl) (Reps.one (show Kd.M (Kd.int .i64) _ _ _ 1 [.int .i64 1] from rfl) (Reps.one (show Kd.M (Kd.int .i64) _ _ _ 2 [.int .i64 2] from rfl) (Reps.one (show Kd.M (Kd.int .i64) _ _ _ 5 [.int .i64 5] from rfl) (Reps.one (show Kd.M (Kd.int .i64) _ _ _ 200 [.int .i64 200] from rfl) (Reps.one (show Kd.M (Kd.int .i64) _ _ _ 201 [.int .i64 201] from rfl) (Reps.one (show Kd.M (Kd.int .i64) _ _ _ (-1) [.int .i64 (-1)] from rfl) (Reps.none _ _)))))))));intro v207 w11 ho12 hb hg_ hnew_;clear hg_ hnew_;(first|rw [← Ny206.out] at ho12|(simp only [Int.reduceToNat] at ho12;rw [← Ny206.out] at ho12));have n0_:=zI (Kd.R_elder' (by (with_reducible repeat (first|apply zN|apply zO|apply zP));exact HO202.out) (Kd.R_base ho12) hb);have n1_:=zI (Kd.R_lower (Kd.R_new' ho12 (Kd.R_lt (by (with_reducible repeat (first|apply zN|apply zO|apply zP));exact HO202.out))) (below_size (by repeat (first|(with_reducible first|exact HB.out|apply zJ|apply zG|apply zH|refine zK ?_ (IsS42.ge HI196.out))|exact HB.out))));have n2_:=zI (IsS42.below (by repeat (first|(with_reducible first|exact HI196.out|apply IsS42.alloc|apply IsS42.drewN|apply IsS42.drew|apply IsS42.set_1|apply IsS42.set_2)|exact HI196.out)) hb);have n3_:=zI (below_step (by repeat (first|(with_reducible first|exact HB.out|apply zJ|apply zG|apply zH|refine zK ?_ (IsS42.ge HI196.out))|exact HB.out)) hb);clear HO202;clear HI196;clear HB;have HO202:=n0_;have HO208:=n1_;have HI196:=n2_;have HB:=n3_;clear n0_ n1_ n2_ n3_;clear hb ho12;obtain ⟨Ao13,co13,eo13⟩:=Kd.R_slice HO208.out;subst eo13)|((with_reducible refine gate_callee (f:=31) rfl ?_);refine goesL_ (some 16) rfl rfl Try.func31 (by kernel_rfl) rfl #[.pointer (some ⟨gb196,0,none⟩),.slice Ao13 y206.length co13] rfl (by (try simp only [List.map_toArray,List.map_cons,List.map_nil]);first|done|rfl|(simp only [List.length_drop,List.length_take];rfl)) ?_;(with_reducible refine (spec_l1Cur_among.calls gb196 l0 t204 t205 _ _ y206 t209 t210 t211 w _ ?side1 ?side2 ?side3 ?side4 ?side5 A4.out).mono ?_);(case side1=>repeat (first|(with_reducible first|exact HI196.out|apply IsS42.alloc|apply IsS42.drewN|apply IsS42.drew|apply IsS42.set_1|apply IsS42.set_2)|exact HI196.out));(case side2=>repeat (first|(with_reducible first|exact HB.out|apply zJ|apply zG|apply zH|refine zK ?_ (IsS42.ge HI196.out))|exact HB.out));(case side3=>repeat (first|exact (zM HO208.out).2.2|(with_reducible refine zQ ?_ _)|(with_reducible refine zR ?_ _)|(with_reducible refine zS ?_)));(case side4=>exact (zM HO208.out).2.1);(case side5=>exact far_slice (IsS42.own_ne HI196.out HO208.out (by decide)));rintro e w14 ⟨rfl,hi,hb,hk⟩;refine ⟨_,rfl,?_⟩;have n0_:=zI (Kd.R_mono (Kd.R_keep (IsS42.apart (show IsS42 w _ gb196 l0 t204 t205 from by repeat (first|(with_reducible first|exact HI196.out|apply IsS42.alloc|apply IsS42.drewN|apply IsS42.drew|apply IsS42.set_1|apply IsS42.set_2)|exact HI196.out)) (by (with_reducible repeat (first|apply zN|apply zO|apply zP));exact HO202.out) (by decide)) hk (fun _ h=>h.2)) (fun _ h=>h.1));have n1_:=zI (Kd.R_mono (Kd.R_keep (IsS42.apart (show IsS42 w _ gb196 l0 t204 t205 from by repeat (first|(with_reducible first|exact HI196.out|apply IsS42.alloc|apply IsS42.drewN|apply IsS42.drew|apply IsS42.set_1|apply IsS42.set_2)|exact HI196.out)) (by (with_reducible repeat (first|apply zN|apply zO|apply zP));exact HO208.out) (by decide)) hk (fun _ h=>h.2)) (fun _ h=>h.1));have n2_:=zI (hb);have n3_:=zI (hi);clear HO202;clear HO208;clear HB;clear HI196;have HO202:=n0_;have HO208:=n1_;have HB:=n2_;have HI196:=n3_;clear n0_ n1_ n2_ n3_;(try clear hb);(try clear hb2);(try clear hk);(try clear hi)))
 go_ret3
 exact ⟨by first|rfl|(simp [errW_none,errW_some] <;> rfl)|(simp [*,errW_none,errW_some] <;> rfl),by repeat (first|(with_reducible first|exact HB.out|apply zJ|apply zG|apply zH|refine zK ?_ (IsS42.ge HI196.out))|exact HB.out)⟩

/-! ### impl_isMore: function 34 -/
def impl_isMore.f (a0 : Int) : Option (Bool) := (impl_within.f a0 0 200).bind fun t212 => (some t212)
set_option maxHeartbeats 8000000 in
set_option maxRecDepth 100000 in
theorem impl_isMore.calls (a0 : Int) (r : Bool) (w : World) (h : impl_isMore.f a0 = some r) :
    Calls Try.prog 34 #[.int .i64 a0] w fun e w' => e = .returned (.bool r) ∧ Drawn0 w w' := by
  have H : ((impl_within.f a0 0 200).bind fun t212 => (some t212)) = some r := h
  clear h
  replace H := Option.bind_eq_some_iff.mp H
  obtain ⟨t212, A20, H⟩ := H
  replace H : (some t212) = some r := H
  have A2 := Aside0.mk A20
  clear A20
  obtain rfl := Option.some.inj H
  go_enter Try.func34, Try.ntmps34
  go_wp2_with (first | ((with_reducible refine gate_callee (f := 33) rfl ?_); refine goesL_ (some 4) rfl rfl Try.func33 (by kernel_rfl) rfl #[.int .i64 a0, .int .i64 0, .int .i64 200] rfl (by (try simp only [List.map_toArray, List.map_cons, List.map_nil]); first | done | rfl | (simp only [List.length_drop, List.length_take]; rfl)) ?_; (with_reducible refine (impl_within.calls a0 0 200 t212 _ A2.out).mono ?_); rintro e w' ⟨rfl, ⟨nd, rfl⟩⟩; refine ⟨_, rfl, ?_⟩))
  go_ret
  exact ⟨by first | rfl | (simp; done) | (simp [*]; done), by repeat (first | exact Drawn0.refl _ | apply Drawn0.step)⟩

/-! ### impl_rising: function 35 -/
def impl_rising.l0 : Nat → Int → Int → List Int → Int → Option (List Int)
  | 0, _, _, _, _ => none
  | k + 1, x1, x2, x7, x8 => if x8 > 0 then (if x7.length < 17592186044416 then (impl_rising.l0 k (wrap64 (x1 + x2)) x2 (x7 ++ [mn x1 x8]) (wrap64 (x8 - (mn x1 x8)))) else (none)) else (some x7)
def impl_rising.f (k : Nat) (a0 : Int) (a1 : Int) (a2 : Int) : Option (List Int) := impl_rising.l0 k a1 a2 (([] : List Int)) a0
theorem impl_rising.mono_l : ∀ k, (∀ y0 y1 y2 y3, LeO (impl_rising.l0 k y0 y1 y2 y3) (impl_rising.l0 (k + 1) y0 y1 y2 y3))
  | 0 => fun _ _ _ _ r h => by simp [impl_rising.l0] at h
  | k + 1 => by
    have ih0 := impl_rising.mono_l k
    · intro y0 y1 y2 y3
      unfold impl_rising.l0
      repeat' first
      | (with_reducible exact ih0 _ _ _ _)
      | (with_reducible exact LeO.refl _)
      | (with_reducible exact LeO.none _)
      | (with_reducible refine LeO.ite ?_ ?_)
      | (with_reducible refine LeO.bind ?_ (fun _ => ?_))
      | exact ih0 _ _ _ _
      | exact LeO.none _
      | refine LeO.ite ?_ ?_
      | refine LeO.bind ?_ (fun _ => ?_)
theorem impl_rising.mono : ∀ a0 a1 a2 k, LeO (impl_rising.f k a0 a1 a2) (impl_rising.f (k + 1) a0 a1 a2) := by
  intro a0 a1 a2 k
  have ih0 := impl_rising.mono_l k
  unfold impl_rising.f
  repeat' first
      | (with_reducible exact ih0 _ _ _ _)
      | (with_reducible exact LeO.refl _)
      | (with_reducible exact LeO.none _)
      | (with_reducible refine LeO.ite ?_ ?_)
      | (with_reducible refine LeO.bind ?_ (fun _ => ?_))
      | exact ih0 _ _ _ _
      | exact LeO.none _
      | refine LeO.ite ?_ ?_
      | refine LeO.bind ?_ (fun _ => ?_)
set_option maxHeartbeats 8000000 in
set_option maxRecDepth 100000 in
theorem impl_rising.calls (k : Nat) (a0 : Int) (a1 : Int) (a2 : Int) (r : List Int) (w : World) (h : impl_rising.f k a0 a1 a2 = some r) :
    Calls Try.prog 35 #[.int .i64 a0, .int .i64 a1, .int .i64 a2] w fun e w' => ∃ v0_ : Value, e = .returned (v0_) ∧ Kd.R (Kd.int .i64) 3 w' w.heap.size (fun _ => True) v0_ r ∧ Below w.heap.size w w' := by
 have HB:=zI (Below.refl w.heap.size w)
 have H : (impl_rising.l0 k a1 a2 (([] : List Int)) a0) = some r:=h
 clear h
 obtain ⟨y213,hy213⟩ : ∃ y_ : List Int,y_ = (([] : List Int)):=⟨_,rfl⟩
 replace H : (impl_rising.l0 k a1 a2 y213 a0) = some r:=by first|(rw [hy213];with_reducible exact H)|(have H2_:=(Option.bind_some _ _).symm.trans H;rw [hy213];with_reducible exact H2_)|(have H2_:=(Option.bind_some _ _).symm.trans H;with_reducible exact H2_)|with_reducible exact H|(rw [hy213];exact H)|exact H
 have Ny213:=zI hy213;clear hy213;have H':=zI H;clear H
 go_enter Try.func35,Try.ntmps35
 go_wp2_with (first|((with_reducible refine gate_dst (N:=10) rfl ?_);refine Kd.R_lit (Kd.int .i64) _ 3 ?hg (N:=10) ?hd (xs:=([] : List Int)) (inner:=[]) (ok:=fun _=>True) (okp:=fun _=>True) ?hr ?hp (fun _ hk=>hk) trivial (Below.refl _ _) (Nat.le_refl _) (by simp) ?_;(case hd=>rfl);(case hg=>rfl);(case hr=>first|(go_simp;done)|(go_simp;rfl));(case hp=>exact (Reps.none _ _));intro v214 w4 ho5 hb hg_ hnew_;clear hg_ hnew_;(first|rw [← Ny213.out] at ho5|(simp only [Int.reduceToNat] at ho5;rw [← Ny213.out] at ho5));have n0_:=zI (Kd.R_lower ho5 (below_size (by repeat (first|(with_reducible first|exact HB.out|apply zJ|apply zG|apply zH)|exact HB.out))));have n1_:=zI (below_step (by repeat (first|(with_reducible first|exact HB.out|apply zJ|apply zG|apply zH)|exact HB.out)) hb);clear HB;have HO215:=n0_;have HB:=n1_;clear n0_ n1_;clear hb ho5))
 go_loopg [1,7,8] k (fun kq v1 v7 v8 w'=>∃ (x1_1 : Int) (x7_1 : List Int) (x8_1 : Int),v1 = .int .i64 x1_1 ∧ v8 = .int .i64 x8_1 ∧ Aside0 (impl_rising.l0 kq x1_1 a2 x7_1 x8_1 = some r) ∧ Aside0 (kq ≤ k) ∧ Aside0 (Kd.R (Kd.int .i64) 3 w' w.heap.size (fun _=>True) v7 x7_1) ∧ Aside0 (Below w.heap.size w w'))
 case atStart=>exact ⟨(a1),(y213),(a0),(by first|rfl|(simp;done)|(simp [*];done)),(by first|rfl|(simp;done)|(simp [*];done)),H',⟨Nat.le_refl _⟩,⟨by (with_reducible repeat (first|apply zN|apply zO|apply zP));exact HO215.out⟩,⟨by repeat (first|(with_reducible first|exact HB.out|apply zJ|apply zG|apply zH)|exact HB.out)⟩⟩
 case round =>
  clear H'
  (try clear p2);(try clear c3)
  obtain ⟨x1_1,x7_1,x8_1,rfl,rfl,HA,HK1,HO_7,HB⟩:=hrel
  cases gk with
  | zero=>exact absurd HA.out (by simp [impl_rising.l0])
  | succ k1 =>
   have H:=HA.out;clear HA
   simp only [impl_rising.l0] at H
   by_cases c6 : x8_1 > 0
   rotate_left
   · rw [if_neg c6] at H
     have c6b0 : decide (0 < x8_1) = false:=decide_eq_false c6
     clear c6
     obtain rfl:=Option.some.inj H
     go_wp2
     go_ret
     exact ⟨_,by first|rfl|(simp [errW_none,errW_some] <;> rfl)|(simp [*,errW_none,errW_some] <;> rfl),by (with_reducible repeat (first|apply zN|apply zO|apply zP));exact HO_7.out,by repeat (first|(with_reducible first|exact HB.out|apply zJ|apply zG|apply zH)|exact HB.out)⟩
   rw [if_pos c6] at H
   have c6b0 : decide (0 < x8_1) = true:=decide_eq_true c6
   clear c6
   obtain ⟨ji7,hji7⟩ : ∃ j_ : Int,(mn x1_1 x8_1) = j_:=⟨_,rfl⟩
   replace H : (if x7_1.length < 17592186044416 then (impl_rising.l0 k1 (wrap64 (x1_1 + a2)) a2 (x7_1 ++ [ji7]) (wrap64 (x8_1 - (ji7)))) else (none)) = some r:=by first|(rw [hji7] at H;exact H)|(simp only [hji7] at H ⊢;exact H)
   have hji7_ : (if x8_1 < x1_1 then x8_1 else x1_1) = ji7:=hji7
   by_cases c8 : x7_1.length < 17592186044416
   rotate_left
   · rw [if_neg c8] at H
     exact absurd H (by simp)
   rw [if_pos c8] at H
   have LMc8:=zI c8;clear c8
   obtain ⟨y216,hy216⟩ : ∃ y_ : List Int,y_ = (x7_1 ++ [ji7]):=⟨_,rfl⟩
   replace H : (impl_rising.l0 k1 (wrap64 (x1_1 + a2)) a2 y216 (wrap64 (x8_1 - (ji7)))) = some r:=by first|(rw [hy216];with_reducible exact H)|(have H2_:=(Option.bind_some _ _).symm.trans H;rw [hy216];with_reducible exact H2_)|(have H2_:=(Option.bind_some _ _).symm.trans H;with_reducible exact H2_)|with_reducible exact H|(rw [hy216];exact H)|exact H
   have Ny216:=zI hy216;clear hy216;have H':=zI H;clear H
   go_wp2_with (first|((with_reducible refine gate_builtin (b:=.append) (xs:=#[.tmp 20,.tmp 22]) rfl ?_);at_builtin;refine Kd.R_append (Kd.int .i64) (w0:=w) w.heap.size rfl (.tmp 20) (.tmp 22) 26 3 (.int .i64 0) 8 rfl Try.underlying26 info3 rfl (by decide) (by omega) u7 x7_1 ji7 [.int .i64 ji7] (fun _=>True) (fun _=>False) rfl rfl ?aP (fun _ hk=>hk.elim) ?aF ?aO ?aB ?aS ?aL ?_;(case aP=>exact rfl);(case aB=>exact (by repeat (first|(with_reducible first|exact HB.out|apply zJ|apply zG|apply zH)|exact HB.out)));(case aF=>exact (fun _ _=>trivial));(case aO=>exact (by (with_reducible repeat (first|apply zN|apply zO|apply zP));exact HO_7.out));(case aS=>exact (below_size (by repeat (first|(with_reducible first|exact HB.out|apply zJ|apply zG|apply zH)|exact HB.out))));(case aL=>have:=LMc8.out;omega);intro v217 w9 ho hb hg hat;rw [← Ny216.out] at ho;have n0_:=zI (hb);have n1_:=zI (ho);clear HB;clear HO_7;have HB:=n0_;have HO218:=n1_;clear n0_ n1_;clear ho hb hg hat))
   go_roundg k1
   case measure=>have:=HK1.out;omega
   case rel=>exact ⟨(wrap64 (x1_1 + a2)),(y216),(wrap64 (x8_1 - (ji7))),(by first|rfl|(simp;done)|(simp [*];done)),(by first|rfl|(simp;done)|(simp only [← hji7] <;> (first|rfl|simp))|(simp [*];done)),H',⟨by have:=HK1.out;omega⟩,⟨by (with_reducible repeat (first|apply zN|apply zO|apply zP));exact HO218.out⟩,⟨by repeat (first|(with_reducible first|exact HB.out|apply zJ|apply zG|apply zH)|exact HB.out)⟩⟩

/-! ### impl_RisingPlan: function 13 -/
def impl_RisingPlan.f (k : Nat) (a0 : Int) (a1 : Int) (a2 : Int) : Option (List Int × Bool) := (impl_isBook.f a0).bind fun t219 => (if t219 = true then ((impl_within.f a1 1 200).bind fun t220 => (if t220 = true then ((impl_isMore.f a2).bind fun t221 => (if t221 = true then ((impl_rising.f k a0 a1 a2).bind fun t222 => (some (t222, true))) else (some (([] : List Int), false)))) else (some (([] : List Int), false)))) else (some (([] : List Int), false)))
theorem impl_RisingPlan.mono : ∀ a0 a1 a2 k, LeO (impl_RisingPlan.f k a0 a1 a2) (impl_RisingPlan.f (k + 1) a0 a1 a2) := by
  intro a0 a1 a2 k
  unfold impl_RisingPlan.f
  repeat' first
      | (with_reducible exact impl_rising.mono _ _ _ _)
      | (with_reducible exact LeO.refl _)
      | (with_reducible exact LeO.none _)
      | (with_reducible refine LeO.ite ?_ ?_)
      | (with_reducible refine LeO.bind ?_ (fun _ => ?_))
      | exact impl_rising.mono _ _ _ _
      | exact LeO.none _
      | refine LeO.ite ?_ ?_
      | refine LeO.bind ?_ (fun _ => ?_)
set_option maxHeartbeats 8000000 in
set_option maxRecDepth 100000 in
theorem impl_RisingPlan.calls (k : Nat) (a0 : Int) (a1 : Int) (a2 : Int) (r1 : List Int) (r2 : Bool) (w : World) (h : impl_RisingPlan.f k a0 a1 a2 = some (r1, r2)) :
    Calls Try.prog 13 #[.int .i64 a0, .int .i64 a1, .int .i64 a2] w fun e w' => ∃ v0_ : Value, e = .returned (.tuple #[v0_, .bool r2]) ∧ Kd.R (Kd.int .i64) 3 w' w.heap.size (fun _ => True) v0_ r1 ∧ Below w.heap.size w w' := by
 have HB:=zI (Below.refl w.heap.size w)
 have H : ((impl_isBook.f a0).bind fun t219=>(if t219 = true then ((impl_within.f a1 1 200).bind fun t220=>(if t220 = true then ((impl_isMore.f a2).bind fun t221=>(if t221 = true then ((impl_rising.f k a0 a1 a2).bind fun t222=>(some (t222,true))) else (some (([] : List Int),false)))) else (some (([] : List Int),false)))) else (some (([] : List Int),false)))) = some (r1,r2):=h
 clear h;replace H:=Option.bind_eq_some_iff.mp H
 obtain ⟨t219,A40,H⟩:=H
 replace H : (if t219 = true then ((impl_within.f a1 1 200).bind fun t220=>(if t220 = true then ((impl_isMore.f a2).bind fun t221=>(if t221 = true then ((impl_rising.f k a0 a1 a2).bind fun t222=>(some (t222,true))) else (some (([] : List Int),false)))) else (some (([] : List Int),false)))) else (some (([] : List Int),false))) = some (r1,r2):=H
 have A4:=zI A40;clear A40
 by_cases c5 : t219 = true
 rotate_left
 · replace c5:=Bool.eq_false_iff.mpr c5
   subst c5
   have H1 : (some (([] : List Int),false)) = some (r1,r2):=by rw [if_neg (show ¬ (false = true) by decide)] at H;exact H
   clear H;have H:=H1;clear H1
   simp only [Option.some.injEq,Prod.mk.injEq] at H
   obtain ⟨rfl,rfl⟩:=H
   go_enter Try.func13,Try.ntmps13
   go_wp2_with (first|((with_reducible refine gate_callee (f:=32) rfl ?_);refine goesL_ (some 9) rfl rfl Try.func32 (by kernel_rfl) rfl #[.int .i64 a0] rfl (by (try simp only [List.map_toArray,List.map_cons,List.map_nil]);first|done|rfl|(simp only [List.length_drop,List.length_take];rfl)) ?_;(with_reducible refine (impl_isBook.calls a0 false _ A4.out).mono ?_);rintro e w' ⟨rfl,⟨nd,rfl⟩⟩;refine ⟨_,rfl,?_⟩))
   go_ret2
   exact ⟨_,by first|rfl|(simp [errW_none,errW_some] <;> rfl)|(simp [*,errW_none,errW_some] <;> rfl),by first|exact Kd.R_nil _ _ _ _ _|exact Kd.N_nil _ _ _ _ _|exact Kd.V_nil _ _ _ _ _|exact Kd.Q_nil _ _ _ _ _|exact Kd.S_nil _ _ _ _ _,by repeat (first|(with_reducible first|exact HB.out|apply zJ|apply zG|apply zH)|exact HB.out)⟩
 subst c5
 have H1 : ((impl_within.f a1 1 200).bind fun t220=>(if t220 = true then ((impl_isMore.f a2).bind fun t221=>(if t221 = true then ((impl_rising.f k a0 a1 a2).bind fun t222=>(some (t222,true))) else (some (([] : List Int),false)))) else (some (([] : List Int),false)))) = some (r1,r2):=by rw [if_pos rfl] at H;exact H
 clear H;have H:=H1;clear H1;replace H:=Option.bind_eq_some_iff.mp H
 obtain ⟨t220,A60,H⟩:=H
 replace H : (if t220 = true then ((impl_isMore.f a2).bind fun t221=>(if t221 = true then ((impl_rising.f k a0 a1 a2).bind fun t222=>(some (t222,true))) else (some (([] : List Int),false)))) else (some (([] : List Int),false))) = some (r1,r2):=H
 have A6:=zI A60;clear A60
 by_cases c7 : t220 = true
 rotate_left
 · replace c7:=Bool.eq_false_iff.mpr c7
   subst c7
   have H1 : (some (([] : List Int),false)) = some (r1,r2):=by rw [if_neg (show ¬ (false = true) by decide)] at H;exact H
   clear H;have H:=H1;clear H1
   simp only [Option.some.injEq,Prod.mk.injEq] at H
   obtain ⟨rfl,rfl⟩:=H
   go_enter Try.func13,Try.ntmps13
   go_wp2_with (first|((with_reducible refine gate_callee (f:=32) rfl ?_);refine goesL_ (some 9) rfl rfl Try.func32 (by kernel_rfl) rfl #[.int .i64 a0] rfl (by (try simp only [List.map_toArray,List.map_cons,List.map_nil]);first|done|rfl|(simp only [List.length_drop,List.length_take];rfl)) ?_;(with_reducible refine (impl_isBook.calls a0 true _ A4.out).mono ?_);rintro e w' ⟨rfl,⟨nd,rfl⟩⟩;refine ⟨_,rfl,?_⟩)|(go_at_call 33;(with_reducible refine (impl_within.calls a1 1 200 false _ A6.out).mono ?_);rintro e w' ⟨rfl,⟨nd,rfl⟩⟩))
   go_ret2
   exact ⟨_,by first|rfl|(simp [errW_none,errW_some] <;> rfl)|(simp [*,errW_none,errW_some] <;> rfl),by first|exact Kd.R_nil _ _ _ _ _|exact Kd.N_nil _ _ _ _ _|exact Kd.V_nil _ _ _ _ _|exact Kd.Q_nil _ _ _ _ _|exact Kd.S_nil _ _ _ _ _,by repeat (first|(with_reducible first|exact HB.out|apply zJ|apply zG|apply zH)|exact HB.out)⟩
 subst c7
 have H1 : ((impl_isMore.f a2).bind fun t221=>(if t221 = true then ((impl_rising.f k a0 a1 a2).bind fun t222=>(some (t222,true))) else (some (([] : List Int),false)))) = some (r1,r2):=by rw [if_pos rfl] at H;exact H
 clear H;have H:=H1;clear H1;replace H:=Option.bind_eq_some_iff.mp H
 obtain ⟨t221,A80,H⟩:=H
 replace H : (if t221 = true then ((impl_rising.f k a0 a1 a2).bind fun t222=>(some (t222,true))) else (some (([] : List Int),false))) = some (r1,r2):=H
 have A8:=zI A80;clear A80
 by_cases c9 : t221 = true
 rotate_left
 · replace c9:=Bool.eq_false_iff.mpr c9
   subst c9
   have H1 : (some (([] : List Int),false)) = some (r1,r2):=by rw [if_neg (show ¬ (false = true) by decide)] at H;exact H
   clear H;have H:=H1;clear H1
   simp only [Option.some.injEq,Prod.mk.injEq] at H
   obtain ⟨rfl,rfl⟩:=H
   go_enter Try.func13,Try.ntmps13
   go_wp2_with (first|((with_reducible refine gate_callee (f:=32) rfl ?_);refine goesL_ (some 9) rfl rfl Try.func32 (by kernel_rfl) rfl #[.int .i64 a0] rfl (by (try simp only [List.map_toArray,List.map_cons,List.map_nil]);first|done|rfl|(simp only [List.length_drop,List.length_take];rfl)) ?_;(with_reducible refine (impl_isBook.calls a0 true _ A4.out).mono ?_);rintro e w' ⟨rfl,⟨nd,rfl⟩⟩;refine ⟨_,rfl,?_⟩)|(go_at_call 33;(with_reducible refine (impl_within.calls a1 1 200 true _ A6.out).mono ?_);rintro e w' ⟨rfl,⟨nd,rfl⟩⟩)|(go_at_call 34;(with_reducible refine (impl_isMore.calls a2 false _ A8.out).mono ?_);rintro e w' ⟨rfl,⟨nd,rfl⟩⟩))
   go_ret2
   exact ⟨_,by first|rfl|(simp [errW_none,errW_some] <;> rfl)|(simp [*,errW_none,errW_some] <;> rfl),by first|exact Kd.R_nil _ _ _ _ _|exact Kd.N_nil _ _ _ _ _|exact Kd.V_nil _ _ _ _ _|exact Kd.Q_nil _ _ _ _ _|exact Kd.S_nil _ _ _ _ _,by repeat (first|(with_reducible first|exact HB.out|apply zJ|apply zG|apply zH)|exact HB.out)⟩
 subst c9
 have H1 : ((impl_rising.f k a0 a1 a2).bind fun t222=>(some (t222,true))) = some (r1,r2):=by rw [if_pos rfl] at H;exact H
 clear H;have H:=H1;clear H1;replace H:=Option.bind_eq_some_iff.mp H
 obtain ⟨t222,A100,H⟩:=H
 replace H : (some (t222,true)) = some (r1,r2):=H
 have A10:=zI A100;clear A100
 simp only [Option.some.injEq,Prod.mk.injEq] at H
 obtain ⟨rfl,rfl⟩:=H
 go_enter Try.func13,Try.ntmps13
 go_wp2_with (first|((with_reducible refine gate_callee (f:=32) rfl ?_);refine goesL_ (some 9) rfl rfl Try.func32 (by kernel_rfl) rfl #[.int .i64 a0] rfl (by (try simp only [List.map_toArray,List.map_cons,List.map_nil]);first|done|rfl|(simp only [List.length_drop,List.length_take];rfl)) ?_;(with_reducible refine (impl_isBook.calls a0 true _ A4.out).mono ?_);rintro e w' ⟨rfl,⟨nd,rfl⟩⟩;refine ⟨_,rfl,?_⟩)|(go_at_call 33;(with_reducible refine (impl_within.calls a1 1 200 true _ A6.out).mono ?_);rintro e w' ⟨rfl,⟨nd,rfl⟩⟩)|(go_at_call 34;(with_reducible refine (impl_isMore.calls a2 true _ A8.out).mono ?_);rintro e w' ⟨rfl,⟨nd,rfl⟩⟩)|((with_reducible refine gate_callee (f:=35) rfl ?_);refine goesL_ (some 24) rfl rfl Try.func35 (by kernel_rfl) rfl #[.int .i64 a0,.int .i64 a1,.int .i64 a2] rfl (by (try simp only [List.map_toArray,List.map_cons,List.map_nil]);first|done|rfl|(simp only [List.length_drop,List.length_take];rfl)) ?_;(with_reducible refine (impl_rising.calls k a0 a1 a2 t222 _ A10.out).mono ?_);rintro e w11 ⟨v223,rfl,ho0,hb⟩;refine ⟨_,rfl,?_⟩;have n0_:=zI (Kd.R_lower ho0 (below_size (by repeat (first|(with_reducible first|exact HB.out|apply zJ|apply zG|apply zH)|exact HB.out))));have n1_:=zI (below_step (by repeat (first|(with_reducible first|exact HB.out|apply zJ|apply zG|apply zH)|exact HB.out)) hb);clear HB;have HO224:=n0_;have HB:=n1_;clear n0_ n1_;(try clear hb);(try clear hb2);(try clear hk);(try clear hi);(try clear ho0)))
 go_ret2
 exact ⟨_,by first|rfl|(simp [errW_none,errW_some] <;> rfl)|(simp [*,errW_none,errW_some] <;> rfl),by (with_reducible repeat (first|apply zN|apply zO|apply zP));exact HO224.out,by repeat (first|(with_reducible first|exact HB.out|apply zJ|apply zG|apply zH)|exact HB.out)⟩

/-! ### spec_l1Least: function 50 -/
def spec_l1Least.f (a0 : Int) (a1 : Int) : Option (Int) := if a0 < a1 then (some a0) else (some a1)
set_option maxHeartbeats 8000000 in
set_option maxRecDepth 100000 in
theorem spec_l1Least.calls (a0 : Int) (a1 : Int) (r : Int) (w : World) (h : spec_l1Least.f a0 a1 = some r) :
    Calls Try.prog 50 #[.int .i64 a0, .int .i64 a1] w fun e w' => e = .returned (.int .i64 r) ∧ Drawn0 w w' := by
  have H : (if a0 < a1 then (some a0) else (some a1)) = some r := h
  clear h
  by_cases c3 : a0 < a1
  · rw [if_pos c3] at H
    have c3b0 : decide (a0 < a1) = true := decide_eq_true c3
    clear c3
    obtain rfl := Option.some.inj H
    go_enter Try.func50, Try.ntmps50
    go_wp2
    go_ret
    exact ⟨by first | rfl | (simp; done) | (simp [*]; done), by repeat (first | exact Drawn0.refl _ | apply Drawn0.step)⟩
  · rw [if_neg c3] at H
    have c3b0 : decide (a0 < a1) = false := decide_eq_false c3
    clear c3
    obtain rfl := Option.some.inj H
    go_enter Try.func50, Try.ntmps50
    go_wp2
    go_ret
    exact ⟨by first | rfl | (simp; done) | (simp [*]; done), by repeat (first | exact Drawn0.refl _ | apply Drawn0.step)⟩

end Go.Proofs.Ytllakpmepfeinaa.XFnReadersPlan
